/- Tokens: Decode, mac, Issue of the program and of the reference. -/
import Derived.Test.YtamlngdjbmndlaaDoorTkA
import Derived.Lib.SlBytesConst
import Derived.Test.YtamlngdjbmndlaaDoorS15
import Derived.Test.YtamlngdjbmndlaaDoorGa
namespace Go.Proofs.YtamlngdjbmndlaaDoor
open Go.RowKit Go.Gr
set_option linter.unusedVariables false
set_option linter.unusedSimpArgs false
attribute [local go_sem] rdOp rdAt rdUpon Cls forall_fr
theorem fill12 {b : List Int} (h : b.length = 12) : splice (Z8 12) 0 ((byt b).take 12) = byt b := by
  have h1 : (byt b).take 12 = byt b := List.take_of_length_le (by rw [byt_length, h]; exact Nat.le_refl _)
  rw [h1]
  unfold splice
  rw [byt_length, h, List.drop_eq_nil_of_le (by simp [Z8]), List.append_nil]
  rfl
theorem blk_rd_at {w : World} {g : Nat} {t : TypeId} {b : List Int} (h : Blk w g t (byt b)) (k : Nat) : Rd w (some ⟨g, k, none⟩) (byt (b.drop k)) := fun j u hu => ⟨_, rfl, by
  have e : (⟨g, k, none⟩ : Addr).add j = ⟨g, k + j, none⟩ := by unfold Addr.add; split <;> simp_all
  rw [e, h.cell (k + j)]
  unfold byt at hu ⊢
  rw [List.map_drop, List.getElem?_drop] at hu
  exact hu⟩
theorem rd_take {w : World} {A : Option Addr} {b : List Int} (h : Rd w A (byt b)) (k : Nat) : Rd w A (byt (b.take k)) := by
  have := h.take_ k
  unfold byt at this ⊢
  rwa [← List.map_take] at this
set_option maxRecDepth 100000 in
set_option maxHeartbeats 1000000 in
theorem dec_any (b : List Int) (A : Option Addr) (c : Nat) (w : World) (hr : Rd w A (byt b)) (hb : isB b) (hlb : b.length ≤ 100000) : Calls Tryd.prog 63 #[.slice A b.length c] w fun e w' => e = .returned (.tuple #[ses (decV b).1 (decV b).2, .int .i64 (decE b)]) ∧ Ext w w' := by
  have HR := hide hr
  have HB := hide hb
  clear hr hb
  have tok1 : True := trivial
  have tok2 : True := trivial
  have tok3 : True := trivial
  have tok4 : True := trivial
  by_cases h12 : b.length = 12
  · have HL := hide h12
    have hli : (b.length : Int) = 12 := by omega
    obtain ⟨u, HU⟩ : ∃ u, Hid (decU b = u) := ⟨_, hide rfl⟩
    obtain ⟨o, HO⟩ : ∃ o, Hid (decO b = o) := ⟨_, hide rfl⟩
    have hur : 0 ≤ u ∧ u < 18446744073709551616 := by rw [← HU.out]; exact decU_range HB.out h12
    have hor : 0 ≤ o ∧ o < 4294967296 := by rw [← HO.out]; exact decO_range HB.out h12
    obtain ⟨hu0, hu1⟩ := hur
    obtain ⟨ho0, ho1⟩ := hor
    have H8 := hide (fun (x : World) (g : Nat) (h : Rd x (some ⟨g, 4, none⟩) (byt (b.drop 4))) => get64_any (b.drop 4) (some ⟨g, 4, none⟩) 8 x h (isB_drop HB.out 4) (by rw [List.length_drop]; omega))
    have H4 := hide (fun (x : World) (g : Nat) (h : Rd x (some ⟨g, 0, none⟩) (byt (b.take 4))) => get32_any (b.take 4) (some ⟨g, 0, none⟩) 12 x h (isB_take HB.out 4) (by rw [List.length_take]; omega))
    have e8 : (b.drop 4).length = 8 := by rw [List.length_drop, h12]
    have e4 : (b.take 4).length = 4 := by rw [List.length_take, h12]; rfl
    rw [show numB (b.drop 4) = u from HU.out, e8] at H8
    rw [show numB (b.take 4) = o from HO.out, e4] at H4
    clear e8 e4
    have HE : Hid (decE b = if u < 9223372036854775808 then 0 else 11) := hide (by unfold decE; rw [if_pos h12, HU.out])
    have HV : Hid (decV b = if decE b = 0 then (o, u) else (0, 0)) := hide (by unfold decV; rw [HU.out, HO.out])
    have hn : Hid ((byt b).length = 12) := hide (by rw [byt_length, h12])
    have HF := hide (fill12 h12)
    clear h12
    go_enter Tryd.func63, Tryd.ntmps63
    go_upto_region 2 with (first
      | (have zz := tok1; clear zz tok1; refine wpList_alS (Sep.refl No w) rfl 53 rfl [.int .u32 0, .int .i64 0] (by kernel_rfl) ?_; intro w1 hz1 K1)
      | (have zz := tok2; clear zz tok2; refine wpList_alS K1 rfl 93 rfl (Z8 12) (by kernel_rfl) ?_; intro w2 _ K2; rw [hz1] at K2; clear K1))
    rw [hz1]
    obtain ⟨gb, GB⟩ : ∃ g, w.heap.size = g := ⟨_, rfl⟩
    rw [GB] at K2 hz1 ⊢
    clear GB hz1
    have hga := (K2.blk (g := gb + 1) (e := 93) (cs := Z8 12) (List.Mem.head _)).lt
    have hhr := K2.rdN HR.out
    go_upto_region 4 with (have zz := tok3; clear zz tok3; refine wpList_cpS [] K2 rfl (.tmp 6) (.tmp 7) 26 26 rfl 5 Tryd.underlying26 (by kernel_rfl) rfl rfl hhr (by rw [byt_length]) 12 (by rw [HL.out]; rfl) (by decide) (byt_one _) ?_; intro w3 K3; rw [HF.out] at K3; dsimp only [List.nil_append] at K3; clear K2 hhr)
    have hB := K3.blk (g := gb + 1) (e := 93) (cs := byt b) (List.Mem.head _)
    have hga := hB.lt
    have R8 := hide (H8.out w3 (gb + 1) (blk_rd_at hB 4))
    have R4 := hide (H4.out w3 (gb + 1) (rd_take hB.rd 4))
    have K4 := hide K3
    clear hB K3 H8 H4
    go_wp2_with fail
    (with_reducible refine R8.out.mono ?_)
    rintro e w4 ⟨rfl, rfl⟩
    by_cases hlt : u < 9223372036854775808
    · have hd1 : ¬ 9223372036854775807 < u := by omega
      have HE2 : Hid (decE b = 0 ∧ decV b = (o, u)) := hide (by
        have h : decE b = 0 := by rw [HE.out, if_pos hlt]
        exact ⟨h, by rw [HV.out, if_pos h]⟩)
      go_wp2_with fail
      (with_reducible refine R4.out.mono ?_)
      rintro e w4 ⟨rfl, rfl⟩
      go_wp2_with (have zz := tok4; clear zz tok4; refine wpList_stS [_] K4.out rfl 53 (.tmp 2) (.tmp 25) rfl rfl (cs := [.int .u32 o, .int .i64 u]) rfl (by kernel_rfl) rfl (by intro v hv; simp at hv; rcases hv with rfl | rfl <;> rfl) ?_; intro w5 K5; dsimp only [List.nil_append, List.cons_append] at K5)
      refine bodyPost_ret (v := .tuple #[ses o u, .int .i64 0]) (results_row_tmp rfl _ _ gb 53 #[.int .u32 o, .int .i64 u] (0, 0) _ rfl (K5.blk (g := gb) (e := 53) (cs := [.int .u32 o, .int .i64 u]) (List.Mem.tail _ (List.Mem.head _))) Tryd.underlying53 rfl (by kernel_rfl) rfl) rfl ⟨by rw [HE2.out.1, HE2.out.2], K5.toExt⟩
    · have hd1 : 9223372036854775807 < u := by omega
      have HE2 : Hid (decE b = 11 ∧ decV b = (0, 0)) := hide (by
        have h : decE b = 11 := by rw [HE.out, if_neg hlt]
        exact ⟨h, by rw [HV.out, if_neg (by rw [h]; decide)]⟩)
      go_wp2_with (have zz := tok4; clear zz tok4; refine wpList_stS [_] K4.out rfl 53 (.tmp 2) (.tmp 20) rfl rfl (cs := [.int .u32 0, .int .i64 0]) rfl (by kernel_rfl) rfl (by intro v hv; simp at hv; rcases hv with rfl | rfl <;> rfl) ?_; intro w5 K5; dsimp only [List.nil_append, List.cons_append] at K5)
      refine bodyPost_ret (v := .tuple #[ses 0 0, .int .i64 11]) (results_row_tmp rfl _ _ gb 53 #[.int .u32 0, .int .i64 0] (0, 0) _ rfl (K5.blk (g := gb) (e := 53) (cs := [.int .u32 0, .int .i64 0]) (List.Mem.tail _ (List.Mem.head _))) Tryd.underlying53 rfl (by kernel_rfl) rfl) rfl ⟨by rw [HE2.out.1, HE2.out.2], K5.toExt⟩
  · have HE2 : Hid (decE b = 11 ∧ decV b = (0, 0)) := hide (by
      have h : decE b = 11 := by unfold decE; rw [if_neg h12]
      exact ⟨h, by unfold decV; rw [if_neg (by rw [h]; decide)]⟩)
    go_enter Tryd.func63, Tryd.ntmps63
    go_upto_region 2 with (first
      | (have zz := tok1; clear zz tok1; refine wpList_alS (Sep.refl No w) rfl 53 rfl [.int .u32 0, .int .i64 0] (by kernel_rfl) ?_; intro w1 hz1 K1)
      | (have zz := tok2; clear zz tok2; refine wpList_alS K1 rfl 93 rfl (Z8 12) (by kernel_rfl) ?_; intro w2 _ K2; rw [hz1] at K2; clear K1))
    rw [hz1]
    obtain ⟨gb, GB⟩ : ∃ g, w.heap.size = g := ⟨_, rfl⟩
    rw [GB] at K2 hz1 ⊢
    clear GB hz1
    have hga := (K2.blk (g := gb + 1) (e := 93) (cs := Z8 12) (List.Mem.head _)).lt
    have hhr := K2.rdN HR.out
    obtain ⟨n, hn⟩ : ∃ n, Nat.min b.length 12 = n := ⟨_, rfl⟩
    have hfit : 0 + n ≤ (Z8 12).length := by have : Nat.min b.length 12 ≤ 12 := Nat.min_le_right _ _; have e : (Z8 12).length = 12 := rfl; omega
    by_cases hlt : b.length < 12
    · have hnb : n = b.length := by rw [← hn]; exact Nat.min_eq_left (by omega)
      subst hnb
      have hne : ¬ (b.length : Int) = 12 := by omega
      have hne2 : ((b.length : Int) != 12) = true := bne_iff_ne.2 hne
      go_wp2_with (first
        | (have zz := tok3; clear zz tok3; refine wpList_cpS [] K2 rfl (.tmp 6) (.tmp 7) 26 26 rfl 5 Tryd.underlying26 (by kernel_rfl) rfl rfl hhr (by rw [byt_length]) b.length hn.symm hfit (byt_one _) ?_; intro w3 K3; dsimp only [List.nil_append] at K3; clear K2 hhr)
        | (have zz := tok4; clear zz tok4; refine wpList_stS [_] K3 rfl 53 (.tmp 2) (.tmp 15) rfl rfl (cs := [.int .u32 0, .int .i64 0]) rfl (by kernel_rfl) rfl (by intro v hv; simp at hv; rcases hv with rfl | rfl <;> rfl) ?_; intro w5 K5; dsimp only [List.nil_append, List.cons_append] at K5))
      refine bodyPost_ret (v := .tuple #[ses 0 0, .int .i64 11]) (results_row_tmp rfl _ _ gb 53 #[.int .u32 0, .int .i64 0] (0, 0) _ rfl (K5.blk (g := gb) (e := 53) (cs := [.int .u32 0, .int .i64 0]) (List.Mem.tail _ (List.Mem.head _))) Tryd.underlying53 rfl (by kernel_rfl) rfl) rfl ⟨by rw [HE2.out.1, HE2.out.2], K5.toExt⟩
    · have hnb : n = 12 := by rw [← hn]; exact Nat.min_eq_right (by omega)
      subst hnb
      have hne : ¬ (b.length : Int) = 12 := by omega
      have hne2 : ((b.length : Int) != 12) = true := bne_iff_ne.2 hne
      go_wp2_with (first
        | (have zz := tok3; clear zz tok3; refine wpList_cpS [] K2 rfl (.tmp 6) (.tmp 7) 26 26 rfl 5 Tryd.underlying26 (by kernel_rfl) rfl rfl hhr (by rw [byt_length]) 12 hn.symm hfit (byt_one _) ?_; intro w3 K3; dsimp only [List.nil_append] at K3; clear K2 hhr)
        | (have zz := tok4; clear zz tok4; refine wpList_stS [_] K3 rfl 53 (.tmp 2) (.tmp 15) rfl rfl (cs := [.int .u32 0, .int .i64 0]) rfl (by kernel_rfl) rfl (by intro v hv; simp at hv; rcases hv with rfl | rfl <;> rfl) ?_; intro w5 K5; dsimp only [List.nil_append, List.cons_append] at K5))
      refine bodyPost_ret (v := .tuple #[ses 0 0, .int .i64 11]) (results_row_tmp rfl _ _ gb 53 #[.int .u32 0, .int .i64 0] (0, 0) _ rfl (K5.blk (g := gb) (e := 53) (cs := [.int .u32 0, .int .i64 0]) (List.Mem.tail _ (List.Mem.head _))) Tryd.underlying53 rfl (by kernel_rfl) rfl) rfl ⟨by rw [HE2.out.1, HE2.out.2], K5.toExt⟩
end Go.Proofs.YtamlngdjbmndlaaDoor
namespace Go.Proofs.YtamlngdjbmndlaaDoor
open Go.RowKit Go.Gr
set_option linter.unusedVariables false
set_option linter.unusedSimpArgs false
attribute [local go_sem] rdOp rdAt rdUpon Cls forall_fr
theorem rd_some {w : World} {A : Option Addr} {l : List Int} (h : Rd w A (byt l)) (h0 : 0 < l.length) : ∃ ad, A = some ad := by
  obtain ⟨ad, e, _⟩ := h.at_ (k := 0) (by rw [byt_length]; exact h0)
  exact ⟨ad, e⟩
theorem rd_dropS {w : World} {ad : Addr} {l : List Int} (h : Rd w (some ad) (byt l)) (k : Nat) : Rd w (some (ad.add k)) (byt (l.drop k)) := fun j u hu => ⟨_, rfl, by
  unfold byt at hu
  rw [List.map_drop, List.getElem?_drop] at hu
  obtain ⟨ad', e, hc⟩ := h (k + j) u hu
  cases e
  rw [add_add']
  exact hc⟩
theorem rd_dropM {w : World} {A : Option Addr} {l : List Int} (h : Rd w A (byt l)) (k : Nat) : Rd w (A.map (fun x => x.add k)) (byt (l.drop k)) := fun j u hu => by
  have hu' := hu
  unfold byt at hu'
  rw [List.map_drop, List.getElem?_drop] at hu'
  obtain ⟨ad, rfl, hc⟩ := h (k + j) u hu'
  exact ⟨_, rfl, by rw [add_add']; exact hc⟩
theorem rd_dropK {w : World} {A : Option Addr} {l : List Int} (h : Rd w A (byt l)) (k : Nat) (hk : 0 < k) : Rd w (A.map (fun x => (⟨x.block, x.off + k, none⟩ : Addr))) (byt (l.drop k)) := by
  have e : (fun x : Addr => (⟨x.block, x.off + k, none⟩ : Addr)) = fun x => x.add k := by
    funext x
    unfold Addr.add
    rw [if_neg (by omega)]
  rw [e]
  exact rd_dropM h k
end Go.Proofs.YtamlngdjbmndlaaDoor
namespace Go.Proofs.YtamlngdjbmndlaaDoor
open Go.RowKit Go.Gr
set_option linter.unusedVariables false
set_option linter.unusedSimpArgs false
/-- bytes that stand in the text, laid -/
theorem sep_lit {G : Nat → Prop} {w0 w : World} {L : List As} (H : Sep G w0 w L) (l : List Int) (fr : Nat × Nat) : Sep G w0 (w.alloc (.cells (byt l).toArray 5 fr)) (As.rd (some ⟨w.heap.size, 0, none⟩) (byt l) :: L) :=
  H.new (B := As.rd (some ⟨w.heap.size, 0, none⟩) (byt l)) ((Ext.refl w).alloc _) (rd_marked w 5 (byt l) fr) (fun i hi => by obtain ⟨_, ad, e, rfl⟩ := hi; cases e; exact Nat.le_refl _)
/-- the conversion of bytes that stand in the text, just laid -/
theorem wpList_litS {G : Nat → Prop} {w0 w : World} {L : List As} {ops : Array Oper} {rest : List Oper} {o : Oper} {a : Act} {Q : Exit → Act → World → Prop} (H : Sep G w0 w L) (l : List Int) (hgd : o.guard = none) (x : Operand)
    (ho : o.op = .convert 26 26 x) (n c : Nat) (hx : a.eval x = .slice (some ⟨w.heap.size, 0, none⟩) n c)
    (h : ∀ w', Sep G w0 w' (As.rd (some ⟨w.heap.size, 0, none⟩) (byt l) :: L) → wpList Tryd.prog ops Q rest (a.put o.dst (.slice (some ⟨w.heap.size, 0, none⟩) n c)) w') : wpList Tryd.prog ops Q (o :: rest) a (w.alloc (.cells (byt l).toArray 5)) := by
  refine wpList_plain hgd fun K hK => ?_
  have hr := Lib.run_convert_bytes_const (P := Tryd.prog) w 26 5 (byt l).toArray n c Tryd.underlying26 Tryd.underlying5
  unfold Oper.wp execOp
  simp only [ho, hx, Sem.run_bind, hr, Result.andThen_ok, Sem.run_pure]
  exact hK _ _ (h _ (sep_lit H l _))
end Go.Proofs.YtamlngdjbmndlaaDoor
namespace Go.Proofs.YtamlngdjbmndlaaDoor
open Go.RowKit Go.Gr
set_option linter.unusedVariables false
set_option linter.unusedSimpArgs false
/-- what mac leaves -/
def MacQ (w : World) (key l : List Int) (e : Ending) (w' : World) : Prop :=
  ∃ g gh v, e = .returned (ptr g) ∧ Sep No w w' [As.blk g 99 [ptr gh, v], AsHash gh (xorB 54 (keyB key) ++ l), As.own 5 v (byt key)]
set_option maxRecDepth 100000 in
set_option maxHeartbeats 1000000 in
theorem mac_any (key b : List Int) (A : Option Addr) (c : Nat) (B : Option Addr) (cb : Nat) (w : World) (hl : Laid w) (hr : Rd w A (byt key)) (hb : isB key) (hc : key.length ≤ c) (hlen : key.length ≤ 100000)
    (hrb : Rd w B (byt b)) (hbb : isB b) (hcb : b.length ≤ cb) (hlb : b.length ≤ 100000) :
    Calls Tryd.prog 39 #[.slice A key.length c, .slice B b.length cb] w (MacQ w key (sessB ++ b)) := by
  have h2 := hl.two
  have HL := hide hl
  have HR := hide hr
  have HB := hide hb
  have HRB := hide hrb
  have HBB := hide hbb
  have HPO : Hid (0 < b.length → ∀ ad, B = some ad → ad.block < w.heap.size) := hide (fun h => rd_before hrb (by rw [byt_length]; exact h))
  clear hl hr hb hrb hbb
  go_enter Tryd.func39, Tryd.ntmps39
  go_wp2_with fail
  (with_reducible refine (mnew_any key A c _ HL.out HR.out HB.out hc hlen).mono ?_)
  rintro e w2 ⟨g, gh, v, rfl, H2⟩
  obtain ⟨ik, HIK⟩ : ∃ ik, Hid (xorB 54 (keyB key) = ik) := ⟨_, hide rfl⟩
  have HIL : Hid (ik.length = 64) := hide (by rw [← HIK.out, xorB_len, keyB_len])
  rw [HIK.out] at H2
  obtain ⟨Av, cv, rfl, hrv, hlv⟩ := own_form (H2.owns (List.Mem.tail _ (List.Mem.tail _ (List.Mem.head _))))
  have hgv := sep_hash_le H2 (l := ik) (List.Mem.tail _ (List.Mem.head _))
  have hg2 : gh < w2.heap.size := (H2.get (A := AsHash gh ik) (List.Mem.tail _ (List.Mem.head _))).lt
  clear hrv hlv
  have tok : True := trivial
  go_wp2_with (have zz := tok; clear zz tok; refine wpList_litS H2 [115, 101, 115, 115, 105, 111, 110] rfl (.tmp 9) rfl 7 7 rfl ?_; intro w3 H3)
  have hW : Calls Tryd.prog 57 #[ptr g, .slice (some ⟨w2.heap.size, 0, none⟩) 7 7] w3 (fun e w' => e = .returned (.int .i64 0) ∧ HashAt w' gh (ik ++ sessB) ∧ Upd gh w3 w') := mwrite_any g gh _ ik sessB (some ⟨w2.heap.size, 0, none⟩) 7 _ (HL.out.ext H3.toExt) (by omega) (H3.blk (List.Mem.tail _ (List.Mem.head _))) (sep_hash H3 (List.Mem.tail _ (List.Mem.tail _ (List.Mem.head _)))) (H3.get (List.Mem.head _)) (by rintro _ ad ⟨⟩; show w2.heap.size ≠ gh; omega) sessB_isB (by decide) (by have := HIL.out; have e : sessB.length = 7 := rfl; omega)
  (with_reducible refine hW.mono ?_)
  rintro e w4 ⟨rfl, hh4, hu4⟩
  have H4 := (sep_write (L1 := [_, _]) H3 hh4 hu4).tail
  clear hW hh4 hu4 H3 H2
  go_wp2_with fail
  (with_reducible refine (mwrite_any g gh _ (ik ++ sessB) b B cb _ (HL.out.ext H4.toExt) (by omega) (H4.blk (List.Mem.head _)) (sep_hash H4 (List.Mem.tail _ (List.Mem.head _))) (H4.rdN HRB.out) (fun h ad e => by have := HPO.out h ad e; omega) HBB.out hcb (by have := HIL.out; have e : sessB.length = 7 := rfl; rw [List.length_append]; omega)).mono ?_)
  rintro e w5 ⟨rfl, hh5, hu5⟩
  have H5 := sep_write (L1 := [_]) H4 hh5 hu5
  dsimp only [List.nil_append, List.cons_append] at H5
  have K5 := hide H5
  clear hh5 hu5 H4 H5
  go_wp2_with fail
  go_ret
  refine ⟨g, gh, .slice Av key.length cv, rfl, ?_⟩
  rw [HIK.out, ← List.append_assoc]
  exact K5.out
end Go.Proofs.YtamlngdjbmndlaaDoor
namespace Go.Gr
open Go.RowKit Go.Sort
set_option linter.unusedVariables false
section
variable {P : Program} {G : Nat → Prop} {w0 w : World} {o : Oper} {a : Act} {Q : Exit → Act → World → Prop} {K : Act → World → Prop}
/-- some cells copied into a block -/
theorem wp_cpS (L1 : List As) {L2 : List As} {g : Nat} {t : TypeId} {cur src : List Value} (H : Sep G w0 w (L1 ++ As.blk g t cur :: L2)) (d s : Operand) (dT sT : TypeId)
    (ho : o.op = .call { callee := .builtin .copy, args := #[d, s], argTypes := #[dT, sT] }) (elem : TypeId) (hu : P.underlying dT = some (.slice elem)) (hsz : (P.info? elem).map (·.size) = some 1)
    {ad : Addr} {off dLen dCap sLen sCap : Nat} (hd : a.eval d = .slice (some ⟨g, off, none⟩) dLen dCap) (hs : a.eval s = .slice (some ad) sLen sCap)
    (hr : Rd w (some ad) src) (hl : src.length = sLen) (hn : sLen = Nat.min sLen dLen) (hfit : off + sLen ≤ cur.length) (h1 : ∀ v ∈ src, v.oneCell' = true)
    (h : ∀ w', Sep G w0 w' (L1 ++ As.blk g t (splice cur off src) :: L2) → Fr (At g) w w' → K (a.put o.dst (.int .i64 sLen)) w') : o.wp P a w K Q := by
  subst hl
  have hB := H.blk (g := g) (e := t) (cs := cur) (by simp)
  have hrun := run_copy_row (P := P) w dT sT o.type elem g off dLen dCap ad src.length sCap cur.toArray t src hu hsz hB hn (fun j v hv => by
    obtain ⟨ad', e, hc⟩ := hr j v hv
    cases e; exact hc) (by simpa using hfit) h1
  unfold Oper.wp
  simp [execOp, ho, resolve, invoke, builtin, hd, hs, hrun, Result.andThen]
  exact h _ (Go.Proofs.YtamlngdjbmndlaaDoor.Sep.row L1 H _) (Fr.of_upd ((Upd.refl g w).row _))
end
end Go.Gr
namespace Go.Proofs.YtamlngdjbmndlaaDoor
open Go.RowKit Go.Gr
set_option linter.unusedVariables false
set_option linter.unusedSimpArgs false
attribute [local go_sem] rdOp rdAt rdUpon Cls forall_fr
theorem out_tok (key r : List Int) : outB key (xorB 54 (keyB key) ++ (sessB ++ r)) = tokT key r := rfl
theorem tok_cells (r t : List Int) (hr : r.length = 12) (ht : t.length = 32) : splice (splice (Z8 44) 0 (byt r)) 12 (byt t) = byt (r ++ t) := by
  unfold splice
  rw [byt_append]
  simp only [List.take_zero, List.nil_append, byt_length, hr, ht]
  rw [List.take_left' (by rw [byt_length, hr]), List.drop_eq_nil_of_le (by simp [byt_length, hr, Z8]), List.append_nil]
set_option maxRecDepth 100000 in
set_option maxHeartbeats 2000000 in
theorem issue_any (key : List Int) (A : Option Addr) (c : Nat) (o u : Int) (w : World) (hl : Laid w) (hr : Rd w A (byt key)) (hb : isB key) (hc : key.length ≤ c) (hlen : key.length ≤ 100000) (ho : 0 ≤ o ∧ o < 4294967296) (hu : -9223372036854775808 ≤ u ∧ u ≤ 9223372036854775807) :
    Calls Tryd.prog 23 #[.slice A key.length c, ses o u] w (RetS w (issueB key o u) (issueE key u)) := by
  have H0 := (Sep.refl No w).newB ((Ext.refl w).alloc (.cells #[.int .u32 o, .int .i64 u] 53)) (Blk.new w 53 [.int .u32 o, .int .i64 u]) (Nat.le_refl _)
  have HL := hide hl
  have HR := hide hr
  have HB := hide hb
  clear hl hr hb
  by_cases hk : keyOk key
  · have dk : decide (keyOk key) = true := decide_eq_true hk
    have HEN := hide (fun (x : World) => enc_any o u x ho hu)
    by_cases hneg : u < 0
    · have HE : Hid (issueB key o u = [] ∧ issueE key u = 7) := hide ⟨by unfold issueB; rw [if_pos hk, if_pos hneg], by unfold issueE encE; rw [if_pos hk, if_pos hneg]⟩
      rw [show encB o u = [] by unfold encB; rw [if_pos hneg], show encE u = 7 by unfold encE; rw [if_pos hneg]] at HEN
      obtain ⟨gb, GB⟩ : ∃ g, Hid (w.heap.size = g) := ⟨_, hide rfl⟩
      go_enter Tryd.func23, Tryd.ntmps23
      go_wp2_with fail
      (with_reducible refine (good_any key A c _).mono ?_)
      rintro e w1 ⟨rfl, rfl⟩
      rw [dk]
      have hb0 := H0.blk (g := w.heap.size) (e := 53) (cs := [.int .u32 o, .int .i64 u]) (List.Mem.head _)
      obtain ⟨c0, c1, hg0⟩ := cells2 hb0
      clear hb0
      go_wp2_with fail
      (with_reducible refine (HEN.out _).mono ?_)
      rintro e w2 ⟨A2, c2, rfl, _, hS⟩
      have K2 := hide (H0.join hS)
      clear H0 hS c0 c1
      go_wp2_with fail
      go_ret2
      exact ⟨none, 0, by rw [HE.out.1, HE.out.2]; rfl, by rw [HE.out.1]; exact Nat.le_refl _, by rw [HE.out.1]; exact sep_nil K2.out⟩
    · have HE : Hid (issueB key o u = tokB key (recB o u) ∧ issueE key u = 0) := hide ⟨by unfold issueB; rw [if_pos hk, if_neg hneg], by unfold issueE encE; rw [if_pos hk, if_neg hneg]⟩
      rw [show encB o u = recB o u by unfold encB; rw [if_neg hneg], show encE u = 0 by unfold encE; rw [if_neg hneg]] at HEN
      obtain ⟨r, HRr⟩ : ∃ r, Hid (recB o u = r) := ⟨_, hide rfl⟩
      have HRL : Hid (r.length = 12) := hide (by rw [← HRr.out, recB_len])
      have HRB : Hid (isB r) := hide (by rw [← HRr.out]; exact recB_isB o u)
      obtain ⟨t, HT⟩ : ∃ t, Hid (tokT key r = t) := ⟨_, hide rfl⟩
      have HTL : Hid ((byt t).length = 32) := hide (by rw [byt_length, ← HT.out, tokT_len])
      have HTN : Hid (t.length = 32) := hide (by rw [← HT.out, tokT_len])
      have HE2 : Hid (issueB key o u = r ++ t ∧ issueE key u = 0) := hide ⟨by rw [HE.out.1, HRr.out]; unfold tokB; rw [HT.out], HE.out.2⟩
      have HTAG := hide (fun (g gh : Nat) (Av : Option Addr) (cv : Nat) (x : World) (h : Ext w x) (hm : Blk x g 99 [ptr gh, .slice Av key.length cv]) (hh : HashAt x gh (xorB 54 (keyB key) ++ (sessB ++ r))) (hv : Rd x Av (byt key)) (hc' : key.length ≤ cv) =>
        mtag_any g gh key (xorB 54 (keyB key) ++ (sessB ++ r)) Av cv x (HL.out.ext h) hm hh hv HB.out hc' hlen (by rw [List.length_append, List.length_append, xorB_len, keyB_len, HRL.out]; decide))
      rw [show outB key (xorB 54 (keyB key) ++ (sessB ++ r)) = t from HT.out] at HTAG
      rw [HRr.out] at HEN
      clear HE HT HRr
      go_enter Tryd.func23, Tryd.ntmps23
      go_wp2_with fail
      (with_reducible refine (good_any key A c _).mono ?_)
      rintro e w1 ⟨rfl, rfl⟩
      rw [dk]
      have hb0 := H0.blk (g := w.heap.size) (e := 53) (cs := [.int .u32 o, .int .i64 u]) (List.Mem.head _)
      obtain ⟨c0, c1, hg0⟩ := cells2 hb0
      clear hb0
      go_wp2_with fail
      (with_reducible refine (HEN.out _).mono ?_)
      rintro e w2 ⟨A2, c2, rfl, hc2, hS⟩
      have H2 := H0.join hS
      dsimp only [List.nil_append, List.cons_append] at H2
      have K2 := hide H2
      clear H0 hS c0 c1 H2
      go_wp2_with fail
      (with_reducible refine (mac_any key r A c A2 c2 _ (HL.out.ext K2.out.toExt) (K2.out.rdN HR.out) HB.out hc hlen (K2.out.get (List.Mem.head _)) HRB.out hc2 (by have := HRL.out; omega)).mono ?_)
      rintro e w3 ⟨g, gh, v, rfl, hS⟩
      have H3 := K2.out.join hS
      dsimp only [List.nil_append, List.cons_append] at H3
      obtain ⟨Av, cv, ev, hrv, hlv, hmv, hhv, hgv⟩ := mac_parts H3
      have HTG := hide (HTAG.out g gh Av cv w3 H3.toExt hmv hhv hrv hlv)
      have K3 := hide H3
      clear H3 hS K2 HTAG hrv hmv hhv hlv
      go_wp2_with fail
      (with_reducible refine HTG.out.mono ?_)
      rintro e w4 ⟨rfl, hx4⟩
      have H4 := ((((K3.out.ext hx4).tail).tail).tail).sub (List.cons_sublist_cons.2 (List.nil_sublist _))
      clear K3 hx4 HTG
      have tok1 : True := trivial
      have tok2 : True := trivial
      have tok3 : True := trivial
      go_upto_region 10 with (first
        | (have zz := tok1; clear zz tok1; refine wpList_alS H4 rfl 36 rfl (Z8 32) (by kernel_rfl) ?_; intro w5 _ H5; clear H4)
        | (have zz := tok2; clear zz tok2; refine wpList_stS [] H5 rfl 36 (.tmp 8) (.tmp 26) rfl rfl (cs := byt t) rfl (by rw [HTL.out]; kernel_rfl) (by rw [HTL.out]; rfl) (byt_one _) ?_; intro w6 H6; dsimp only [List.nil_append] at H6; clear H5)
        | (have zz := tok3; clear zz tok3; refine wpList_alS H6 rfl 81 rfl (Z8 44) (by kernel_rfl) ?_; intro w7 _ H7; clear H6))
      obtain ⟨g8, G8⟩ : ∃ g, w4.heap.size = g := ⟨_, rfl⟩
      obtain ⟨g9, G9⟩ : ∃ g, w6.heap.size = g := ⟨_, rfl⟩
      rw [G8, G9] at H7 ⊢
      clear G8 G9
      obtain ⟨ad2, rfl⟩ := rd_some (H7.get (A := As.rd A2 (byt r)) (List.Mem.tail _ (List.Mem.tail _ (List.Mem.head _)))) (by have := HRL.out; omega)
      rw [HRL.out] at hc2 ⊢
      refine wp_region_wtR (RT.fr (At g9)) 5 [0, 1, 4, 2, 3] (by kernel_rfl) (by kernel_rfl) (by kernel_rfl) ?_
      have H8 := H7.drew
      clear H7
      generalize w7.drew = wd at *
      have hg9 := (H8.blk (g := g9) (e := 81) (cs := Z8 44) (List.Mem.head _)).lt
      have hg8 := (H8.blk (g := g8) (e := 36) (cs := byt t) (List.Mem.tail _ (List.Mem.head _))).lt
      iterate 3 (refine wr_rd rfl rfl (fun K hK => ?_); go_simp; refine hK _ ?_; clear hK K)
      refine wr_ext rfl rfl (fun K hK => ?_)
      rw [if_pos (show Region.wanted _ _ = true from rfl)]
      refine wp_cpS [] H8 (.tmp 31) (.tmp 32) 26 26 rfl 5 Tryd.underlying26 (by kernel_rfl) rfl rfl (H8.get (A := As.rd (some ad2) (byt r)) (List.Mem.tail _ (List.Mem.tail _ (List.Mem.head _)))) (by rw [byt_length, HRL.out]) rfl (by decide) (byt_one _) ?_
      intro w9 H9 hf9
      dsimp only [List.nil_append] at H9
      refine hK _ _ hf9 ?_
      clear hK K hf9 H8
      iterate 1 (refine wr_rd rfl rfl (fun K hK => ?_); go_simp; refine hK _ ?_; clear hK K)
      refine wr_nil ?_
      simp only [List.drop_succ_cons, List.drop_zero]
      refine wpList_cpS [] H9 rfl (.tmp 34) (.tmp 35) 26 26 rfl 5 Tryd.underlying26 (by kernel_rfl) rfl rfl ((H9.blk (g := g8) (e := 36) (cs := byt t) (List.Mem.tail _ (List.Mem.head _))).rd) HTL.out 32 rfl (by rw [show (splice (Z8 44) 0 (byt r)).length = 44 by rw [splice_len _ _ _ (by rw [byt_length, HRL.out]; decide)]; rfl]; decide) (byt_one _) ?_
      intro wa Ha
      dsimp only [List.nil_append] at Ha
      rw [List.take_of_length_le (Nat.le_of_eq HTL.out), tok_cells r t HRL.out HTN.out] at Ha
      have hg9' := (Ha.blk (g := g9) (e := 81) (List.Mem.head _)).lt
      have Ka := hide Ha
      clear Ha H9
      refine NoPanic.normal ?_
      go_wp2_with fail
      go_ret2
      refine ⟨some ⟨g9, 0, none⟩, 44, ?_, ?_, ?_⟩
      · rw [HE2.out.1, HE2.out.2, List.length_append, HRL.out, HTN.out]; rfl
      · rw [HE2.out.1, List.length_append, HRL.out, HTN.out]; exact Nat.le_refl _
      · rw [HE2.out.1]; exact sep_blk Ka.out
  · have dk : decide (keyOk key) = false := decide_eq_false hk
    have HE : Hid (issueB key o u = [] ∧ issueE key u = 2) := hide ⟨by unfold issueB; rw [if_neg hk], by unfold issueE; rw [if_neg hk]⟩
    have K0 := hide H0
    clear H0
    go_enter Tryd.func23, Tryd.ntmps23
    go_wp2_with fail
    (with_reducible refine (good_any key A c _).mono ?_)
    rintro e w1 ⟨rfl, rfl⟩
    rw [dk]
    go_wp2_with fail
    go_ret2
    exact ⟨none, 0, by rw [HE.out.1, HE.out.2]; rfl, by rw [HE.out.1]; exact Nat.le_refl _, by rw [HE.out.1]; exact sep_nil K0.out⟩
end Go.Proofs.YtamlngdjbmndlaaDoor
namespace Go.Gr
open Go.RowKit Go.Sort
set_option linter.unusedVariables false
section
variable {P : Program} {w w0 : World} {G : Nat → Prop} {L : List As}
theorem wpList_growS {ops : Array Oper} {rest : List Oper} {o : Oper} {a : Act} {Q : Exit → Act → World → Prop} (H : Sep G w0 w L) (hgd : o.guard = none) (s x : Operand) (t : TypeId)
    (ho : o.op = .call { callee := .builtin .append, args := #[s, x], argTypes := #[t, t] })
    {e : TypeId} (i : TypeInfo) (z : Value) (bytes : Nat) (ht : P.underlying t = some (.slice e)) (hi : P.info? e = some i) (hz : i.zero = some z)
    (hsize : i.size = 1) (hby : i.bytes = bytes) (hzs : z.cells.size = 1)
    {b : Addr} {n c1 : Nat} {olds : List Value} (hs : a.eval s = .slice (some b) n c1) (hlo : olds.length = n) (hro : Rd w (some b) olds)
    {A : Addr} {m c : Nat} {news : List Value} (hx : a.eval x = .slice (some A) m c) (hl : m = news.length) (hr : Rd w (some A) news)
    (hg : c1 < n + m) (hlen : n + m ≤ 1000000000) (hb : bytes ≤ 1000)
    (h : ∀ v' w', Sep G w0 w' (As.own e v' (olds ++ news) :: L) → wpList P ops Q rest (a.put o.dst v') w') : wpList P ops Q (o :: rest) a w := by
  subst hl
  subst hlo
  have hbb : (olds.length + news.length) * i.bytes ≤ 1000000000 * 1000 := Nat.mul_le_mul hlen (by omega)
  have hrun := run_append_grow (P := P) w t o.type e i z ht hi hz b olds.length c1 olds (by rw [hsize, Nat.mul_one]) (fun j v hj => by
    obtain ⟨ad', e', hc⟩ := hro j v hj
    cases e'; exact hc) A news.length c news (by rw [hsize, Nat.mul_one]) (fun j v hj => by
    obtain ⟨ad', e', hc⟩ := hr j v hj
    cases e'; exact hc) hg (by omega) (growslice_fits hg (by omega))
  have hge := grownCap_ge w (olds.length + news.length) c1 e
  have hcm : grownCap w (olds.length + news.length) c1 e ≤ maxLen := grownCap_le_maxLen w _ c1 e (by unfold maxLen; omega)
  refine wpList_plain hgd fun K hK => ?_
  unfold Oper.wp execOp
  simp only [ho, resolve, invoke, builtin, Sem.run_bind, Sem.run_pure, Result.andThen_ok, List.map_toArray, List.map_cons, List.map_nil, hs, hx, hrun]
  refine hK _ _ (h _ _ ?_)
  refine H.new (B := As.own e (.slice (some ⟨w.heap.size, 0, none⟩) (olds.length + news.length) (grownCap w (olds.length + news.length) c1 e)) (olds ++ news)) (((Ext.refl w).drew).alloc _) ?_ (fun k hk => by
    have : some w.heap.size = some k := hk
    cases this; exact Nat.le_refl _)
  refine ⟨by simp, .inr ⟨w.heap.size, _, _, ?_, Nat.zero_le _, heap_alloc_new w.drew _, ?_, hcm, ?_, ?_⟩⟩
  · simp
  · simpa using hge
  · simp only [Array.size_append, List.size_toArray, size_zeroCells, hzs]
    omega
  · simp only [Array.toList_append, List.append_assoc]
    rw [← List.append_assoc, show (olds ++ news).length * 1 = (olds ++ news).length by omega]
    exact List.take_left
end
end Go.Gr
namespace Go.Proofs.YtamlngdjbmndlaaDoor
open Go.RowKit Go.Gr
set_option linter.unusedVariables false
set_option linter.unusedSimpArgs false
attribute [local go_sem] rdOp rdAt rdUpon Cls forall_fr
end Go.Proofs.YtamlngdjbmndlaaDoor
namespace Go.Proofs.YtamlngdjbmndlaaDoor
open Go.RowKit Go.Gr
set_option linter.unusedVariables false
set_option linter.unusedSimpArgs false
attribute [local go_sem] rdOp rdAt rdUpon Cls forall_fr
end Go.Proofs.YtamlngdjbmndlaaDoor
