/- Texts put together: I5 I6 I7. -/
import Derived.Test.YtamlngdjbmndlaaDoorI4
import Derived.Lib.AppendZeros
import Derived.Test.YtamlngdjbmndlaaDoorTkC
namespace Go.Proofs.YtamlngdjbmndlaaDoor
open Go.RowKit Go.Gr
set_option linter.unusedVariables false
set_option linter.unusedSimpArgs false
theorem zc_size (z : Array Value) (n : Nat) : (Builtin.zeroCells z n).size = n * z.size := by simp [Builtin.zeroCells]
set_option maxRecDepth 100000 in
set_option maxHeartbeats 1000000 in
theorem grow_any (n : Nat) (w : World) (h0 : 0 < n) (hn : n ≤ 1000000) : Calls Tryd.prog 44 #[.slice none 0 0, .int .i64 n] w fun e w' => ∃ v, e = .returned v ∧ Sep No w w' [As.own 5 v []] := by
  obtain ⟨i0, hi, hz0, hz1, hz2⟩ := info_parts info8
  have hn0 : ¬ (n : Int) < 0 := by omega
  have hn1 : (0 : Int) < (n : Int) := by omega
  have hn2 : 0 < n := h0
  have hrun := Lib.run_append_nil_zeros (P := Tryd.prog) w 26 3 26 5 i0 (.int .u8 0) .i64 .i64 Tryd.underlying26 Tryd.underlying3 hi hz0 n h0 (by rw [hz1]; decide) (by omega) (by rw [hz2]; omega)
  have hcap := grownCap_ge w n 0 5
  have hmx := grownCap_le_maxLen w n 0 5 (by unfold maxLen; omega)
  generalize grownCap w n 0 5 = cap at *
  have hsz : (Builtin.zeroCells (Value.int .u8 0).cells n ++ Builtin.zeroCells (Value.int .u8 0).cells (cap - n)).size = cap * 1 := by
    rw [Array.size_append, zc_size, zc_size]
    show n * 1 + (cap - n) * 1 = cap * 1
    omega
  have hown := World.ownsRow_made (e := 5) (base := w.heap.size) (size := 1) w.drew _ cap (Nat.le_of_eq rfl) hmx hsz
  have hext := (Ext.refl w).drew.alloc (.cells (Builtin.zeroCells (Value.int .u8 0).cells n ++ Builtin.zeroCells (Value.int .u8 0).cells (cap - n)) 5)
  have K := hide ((Sep.refl No w).newO hext hown)
  have HRUN := hide hrun
  have tok : True := trivial
  clear hown hext hrun hsz hmx
  go_enter Tryd.func44, Tryd.ntmps44
  go_wp2_with (have zz := tok; clear zz tok; at_builtin; refine Lib.wpList_append_run _ rfl (.tmp 20) (.tmp 21) 26 3 rfl _ _ rfl rfl _ _ HRUN.out ?_)
  go_ret
  exact ⟨_, rfl, K.out⟩
/-- the first k of two lists, one behind the other -/
def cat2 (l1 l2 : List Int) : Nat → List Int
  | 0 => []
  | 1 => l1
  | _ => l1 ++ l2
set_option maxRecDepth 100000 in
set_option maxHeartbeats 2000000 in
theorem concat_any (l1 l2 : List Int) (A1 A2 : Option Addr) (c1 c2 gs : Nat) (t : TypeId) (w : World) (hB : Blk w gs t [.slice A1 l1.length c1, .slice A2 l2.length c2]) (h1 : Rd w A1 (byt l1)) (h2 : Rd w A2 (byt l2)) (hn1 : l1.length ≤ 100000) (hn2 : l2.length ≤ 100000) (h0 : 0 < l1.length + l2.length) :
    Calls Tryd.prog 30 #[.slice (some ⟨gs, 0, none⟩) 2 2] w (OwnB w (l1 ++ l2)) := by
  obtain ⟨i0, hi, hz0, hz1, hz2⟩ := info_parts info8
  have HB := hide (fun (y : World) (k : Ext w y) => hB.ext k)
  have HR1 := hide (fun (y : World) (k : Ext w y) => h1.ext k)
  have HR2 := hide (fun (y : World) (k : Ext w y) => h2.ext k)
  have HG := hide (fun (y : World) => grow_any (l1.length + l2.length) y h0 (by omega))
  have HL1 : Hid ((byt l1).length = l1.length) := hide (byt_length l1)
  have HL2 : Hid ((byt l2).length = l2.length) := hide (byt_length l2)
  obtain ⟨n1, HN1⟩ : ∃ n, Hid (l1.length = n) := ⟨_, hide rfl⟩
  obtain ⟨n2, HN2⟩ : ∃ n, Hid (l2.length = n) := ⟨_, hide rfl⟩
  rw [HN1.out] at hn1 h0 HG HL1 HB
  rw [HN2.out] at hn2 h0 HG HL2 HB
  rw [show ((n1 + n2 : Nat) : Int) = (n1 : Int) + (n2 : Int) by omega] at HG
  clear hB h1 h2
  go_enter Tryd.func30, Tryd.ntmps30
  go_wp2_with fail
  go_loopw [3, 11] (fun v3 v11 wr => ∃ k : Nat, v11 = .int .i64 k ∧ k ≤ 2 ∧ v3 = .int .i64 ((if k = 0 then 0 else if k = 1 then n1 else n1 + n2 : Nat) : Int) ∧ Hid (Ext w wr)) (fun _ v11 _ => 2 - (intOf v11).toNat)
  case atStart => exact ⟨0, rfl, by omega, rfl, hide (Ext.refl _)⟩
  case round =>
    obtain ⟨k, rfl, hk, rfl, E⟩ := hrel
    obtain ⟨b0, b1, bz⟩ : wr.cell? ⟨gs, 0, none⟩ = some (.slice A1 n1 c1) ∧ wr.cell? ⟨gs, 1, none⟩ = some (.slice A2 n2 c2) ∧ gs < wr.heap.size := ⟨(HB.out wr E.out).cell 0, (HB.out wr E.out).cell 1, (HB.out wr E.out).lt⟩
    rcases (by omega : k = 0 ∨ k = 1 ∨ k = 2) with rfl | rfl | rfl
    · rw [if_pos rfl]
      rw [show ((0 : Nat) : Int) = 0 from rfl]
      go_wp2_with fail
      go_roundw
      case rel => exact ⟨1, rfl, by omega, by simp, E⟩
      case measure => simp [intOf]
    · rw [if_neg (by decide), if_pos rfl]
      rw [show ((1 : Nat) : Int) = 1 from rfl]
      have hnn : ¬ (n1 : Int) + (n2 : Int) < 0 := by omega
      go_wp2_with fail
      go_roundw
      case rel => exact ⟨2, rfl, by omega, by simp, E⟩
      case measure => simp [intOf]
    · rw [if_neg (by decide), if_neg (by decide)]
      rw [show ((2 : Nat) : Int) = 2 from rfl]
      clear b0 b1 bz
      go_wp2_with fail
      (with_reducible refine (HG.out _).mono ?_)
      rintro e w2 ⟨v, rfl, hS⟩
      have K2 : Hid (Sep No w w2 [As.own 5 v (byt (cat2 l1 l2 0))]) := hide (((Sep.refl No w).ext E.out).join hS)
      clear hS E
      go_wp2_with fail
      go_loopw [6, 27] (fun v6 v27 wr => ∃ k : Nat, v27 = .int .i64 k ∧ k ≤ 2 ∧ Hid (Sep No w wr [As.own 5 v6 (byt (cat2 l1 l2 k))])) (fun _ v27 _ => 2 - (intOf v27).toNat)
      case atStart => exact ⟨0, rfl, by omega, K2⟩
      case round =>
        obtain ⟨k, rfl, hk, K3⟩ := hrel
        clear K2
        obtain ⟨b0, b1, bz⟩ : wr.cell? ⟨gs, 0, none⟩ = some (.slice A1 n1 c1) ∧ wr.cell? ⟨gs, 1, none⟩ = some (.slice A2 n2 c2) ∧ gs < wr.heap.size := ⟨(HB.out wr K3.out.toExt).cell 0, (HB.out wr K3.out.toExt).cell 1, (HB.out wr K3.out.toExt).lt⟩
        have tok : True := trivial
        rcases (by omega : k = 0 ∨ k = 1 ∨ k = 2) with rfl | rfl | rfl
        · rw [show ((0 : Nat) : Int) = 0 from rfl]
          have HR := hide (HR1.out _ K3.out.toExt)
          go_wp2_with (have zz := tok; clear zz tok; with_reducible refine wpList_apS [] K3.out rfl (.tmp 31) (.tmp 32) 26 rfl i0 (.int .u8 0) 1 Tryd.underlying26 hi hz0 hz1 hz2 rfl rfl (A := A1) (m := n1) (c := c1) (news := byt l1) rfl (HL1.out.symm) HR.out (byt_one _) (by rw [HL1.out]; simp [cat2, byt_length]; have := HN1.out; omega) (by omega) ?_; intro v4 w4 H4; dsimp only [List.nil_append] at H4; rw [← byt_append] at H4; have K4 := hide H4; clear H4)
          go_roundw
          case rel => exact ⟨1, rfl, by omega, K4⟩
          case measure => simp [intOf]
        · rw [show ((1 : Nat) : Int) = 1 from rfl]
          have HR := hide (HR2.out _ K3.out.toExt)
          go_wp2_with (have zz := tok; clear zz tok; with_reducible refine wpList_apS [] K3.out rfl (.tmp 31) (.tmp 32) 26 rfl i0 (.int .u8 0) 1 Tryd.underlying26 hi hz0 hz1 hz2 rfl rfl (A := A2) (m := n2) (c := c2) (news := byt l2) rfl (HL2.out.symm) HR.out (byt_one _) (by rw [HL2.out]; simp [cat2, byt_length]; have := HN1.out; omega) (by omega) ?_; intro v4 w4 H4; dsimp only [List.nil_append] at H4; rw [← byt_append] at H4; have K4 := hide H4; clear H4)
          go_roundw
          case rel => exact ⟨2, rfl, by omega, K4⟩
          case measure => simp [intOf]
        · rw [show ((2 : Nat) : Int) = 2 from rfl]
          clear b0 b1 bz
          go_wp2_with fail
          go_ret
          exact ⟨_, rfl, K3.out⟩
end Go.Proofs.YtamlngdjbmndlaaDoor
namespace Go.Proofs.YtamlngdjbmndlaaDoor
open Go.RowKit Go.Gr
set_option linter.unusedVariables false
set_option linter.unusedSimpArgs false
attribute [local go_sem] rdOp rdAt rdUpon Cls forall_fr
set_option maxRecDepth 100000 in
set_option maxHeartbeats 2000000 in
theorem ttag_any (key r : List Int) (A : Option Addr) (c : Nat) (B : Option Addr) (cb : Nat) (w : World) (hl : Laid w) (hr : Rd w A (byt key)) (hb : isB key) (hc : key.length ≤ c) (hlen : key.length ≤ 100000)
    (hrb : Rd w B (byt r)) (hbb : isB r) (hlb : r.length ≤ 1000) :
    Calls Tryd.prog 29 #[.slice A key.length c, .slice B r.length cb] w fun e w' => e = .returned (.agg (byt (tagTi key r)).toArray) ∧ Ext w w' := by
  have HR := hide hr
  have HB := hide hb
  have HRB := hide hrb
  have HL := hide hl
  have HTB := hide (show isB (ticB ++ r) from isB_append ticB_isB hbb)
  obtain ⟨t, HT⟩ : ∃ t, Hid (tagTi key r = t) := ⟨_, hide rfl⟩
  have HTL : Hid ((byt t).length = 32) := hide (by rw [byt_length, ← HT.out, tagTi_len])
  obtain ⟨m, HM⟩ : ∃ m, Hid (ticB ++ r = m) := ⟨_, hide rfl⟩
  have HML : Hid (m.length = 6 + r.length) := hide (by rw [← HM.out, List.length_append]; rfl)
  rw [HM.out] at HTB
  have HTG := hide (fun (x : World) (h : Ext w x) (Av : Option Addr) (cv : Nat) (hv : Rd x Av (byt m)) (hcv : m.length ≤ cv) => htag_any key m A c Av cv x (HL.out.ext h) (HR.out.ext h) HB.out hc hlen hv HTB.out hcv (by have := HML.out; omega))
  rw [show tagB key m = t by rw [← HM.out]; exact HT.out] at HTG
  have HCC := hide (fun (x : World) (A1 : Option Addr) (gs : Nat) (h : Ext w x) (hB : Blk x gs 26 [.slice A1 6 6, .slice B r.length cb]) (h1 : Rd x A1 (byt ticB)) => concat_any ticB r A1 B 6 cb gs 26 x hB h1 (HRB.out.ext h) (by decide) (by omega) (by rw [show ticB.length = 6 from rfl]; omega))
  rw [HM.out] at HCC
  rw [HT.out]
  clear hr hb hrb hbb hl HT
  have tok1 : True := trivial
  have tok2 : True := trivial
  go_enter Tryd.func29, Tryd.ntmps29
  go_wp2_with (first
    | (have zz := tok1; clear zz tok1; refine wpList_alS (Sep.refl No w) rfl 36 rfl (Z8 32) (by kernel_rfl) ?_; intro w1 hz9 H1; clear hz9)
    | (have zz := tok2; clear zz tok2; refine wpList_litS H1 [116, 105, 99, 107, 101, 116] rfl (.tmp 6) rfl 6 6 rfl ?_; intro w2 H2))
  have K2 := hide H2
  have HLIT := hide (H2.get (List.Mem.head _))
  have hz2 : w1.heap.size ≤ w2.heap.size := by
    have h1 := (H2.get (A := As.rd (some ⟨w1.heap.size, 0, none⟩) (byt [116, 105, 99, 107, 101, 116])) (List.Mem.head _))
    have h2 := As.lt (As.rd (some ⟨w1.heap.size, 0, none⟩) (byt [116, 105, 99, 107, 101, 116])) h1 w1.heap.size ⟨by simp [byt], _, rfl, rfl⟩
    omega
  obtain ⟨g1, G1⟩ : ∃ g, w1.heap.size = g := ⟨_, rfl⟩
  rw [G1] at HLIT K2
  rw [G1]
  clear H1 H2 hz2 G1
  have K3 := hide (K2.out.add 26 [.slice (some ⟨g1, 0, none⟩) 6 6, .slice B r.length cb])
  have HBK := hide (Blk.new w2 26 [.slice (some ⟨g1, 0, none⟩) 6 6, .slice B r.length cb])
  have HL2 := hide (HLIT.out.ext ((Ext.refl w2).alloc (.cells #[.slice (some ⟨g1, 0, none⟩) 6 6, .slice B r.length cb] 26)))
  refine (HCC.out _ (some ⟨g1, 0, none⟩) w2.heap.size K3.out.toExt HBK.out HL2.out).mono ?_
  rintro e w4 ⟨v4, rfl, hS⟩
  obtain ⟨Av, cv, rfl, hrv, hlv⟩ := own_form (hS.owns (List.Mem.head _))
  have HRV := hide hrv
  have K4 := hide (((K3.out.ext hS.toExt).tail).tail)
  clear hS hrv K3 HBK HL2 HLIT K2 HCC
  go_wp2_with fail
  (with_reducible refine (HTG.out _ K4.out.toExt Av cv HRV.out hlv).mono ?_)
  rintro e w5 ⟨rfl, hx5⟩
  have H5 := K4.out.ext hx5
  clear K4 hx5 HTG HRV
  obtain ⟨gr, GR⟩ : ∃ g, w.heap.size = g := ⟨_, rfl⟩
  rw [GR] at H5 ⊢
  have tok5 : True := trivial
  go_wp2_with (have zz := tok5; clear zz tok5; refine wpList_stS [] H5 rfl 36 (.tmp 4) (.tmp 11) rfl rfl (cs := byt t) rfl (by rw [HTL.out]; kernel_rfl) (by rw [HTL.out]; rfl) (byt_one _) ?_; intro w9 H9; dsimp only [List.nil_append, List.cons_append] at H9; clear H5)
  have hB := H9.blk (g := gr) (e := 36) (cs := byt t) (List.Mem.head _)
  refine bodyPost_ret (v := .agg (byt t).toArray) (results_cell_row rfl _ _ gr 36 (byt t).toArray (0, 0) _ rfl hB Tryd.underlying36 rfl (by rw [List.size_toArray, HTL.out]; kernel_rfl)) rfl ⟨rfl, H9.toExt⟩
theorem issT_key {key : List Int} (h : ¬ keyOk key) (s o n e : Int) : issTB key s o n e = [] ∧ issTE key s n = 2 := ⟨by unfold issTB; rw [if_neg h], by unfold issTE; rw [if_neg h]⟩
theorem issT_bad {key : List Int} (h : keyOk key) {s o n e : Int} (hz : ¬ (s < 4096 ∧ n ≠ 0)) : issTB key s o n e = [] ∧ issTE key s n = 7 := ⟨by unfold issTB; rw [if_pos h, if_neg hz], by unfold issTE encTE; rw [if_pos h, if_neg hz]⟩
theorem issT_ok {key : List Int} (h : keyOk key) {s o n e : Int} (hz : s < 4096 ∧ n ≠ 0) : issTB key s o n e = recT s o n e ++ tagTi key (recT s o n e) ∧ issTE key s n = 0 := ⟨by unfold issTB bloB; rw [if_pos h, if_pos hz], by unfold issTE encTE; rw [if_pos h, if_pos hz]⟩
set_option maxRecDepth 100000 in
set_option maxHeartbeats 2000000 in
theorem tissue_any (key : List Int) (A : Option Addr) (c : Nat) (s1 o1 n1 e1 : Int) (w : World) (hl : Laid w) (hr : Rd w A (byt key)) (hb : isB key) (hc : key.length ≤ c) (hlen : key.length ≤ 100000) (ht : TiB s1 o1 n1 e1) :
    Calls Tryd.prog 15 #[.slice A key.length c, tkv s1 o1 n1 e1] w (RetO w (issTB key s1 o1 n1 e1) (issTE key s1 n1)) := by
  have H0 := box_tk w s1 o1 n1 e1
  have HL := hide hl
  have HR := hide hr
  have HB := hide hb
  have HGD := hide (fun (x : World) => tgood_any key A c x)
  have HEN := hide (fun (x : World) => tenc_any s1 o1 n1 e1 x ht)
  clear hl hr hb ht
  by_cases hk : keyOk key
  rotate_left
  · have HE := hide (issT_key hk s1 o1 n1 e1)
    rw [decide_eq_false hk] at HGD
    clear hk
    go_enter Tryd.func15, Tryd.ntmps15
    go_wp2_with fail
    (with_reducible refine (HGD.out _).mono ?_)
    rintro e w1 ⟨rfl, rfl⟩
    have K0 := hide H0
    clear H0
    go_wp2_with fail
    go_ret2
    exact ⟨.slice none 0 0, by rw [HE.out.2]; rfl, by rw [HE.out.1]; exact (K0.out.nilO 5).sub (List.cons_sublist_cons.2 (List.nil_sublist _))⟩
  rw [decide_eq_true hk] at HGD
  by_cases hz : s1 < 4096 ∧ n1 ≠ 0
  rotate_left
  · have HE := hide (issT_bad hk (o := o1) (e := e1) hz)
    rw [(encT_bad (o := o1) (e := e1) hz).1, (encT_bad (o := o1) (e := e1) hz).2] at HEN
    clear hk hz
    go_enter Tryd.func15, Tryd.ntmps15
    go_wp2_with fail
    (with_reducible refine (HGD.out _).mono ?_)
    rintro e w1 ⟨rfl, rfl⟩
    obtain ⟨c0, c1, c2, c3, cz⟩ := tk4 (H0.blk (List.Mem.head _))
    go_wp2_with fail
    (with_reducible refine (HEN.out _).mono ?_)
    rintro e w2 ⟨A2, c2', rfl, _, hS⟩
    have K2 := hide (H0.ext hS.toExt)
    clear H0 hS c0 c1 c2 c3 cz
    go_wp2_with fail
    go_ret2
    exact ⟨.slice none 0 0, by rw [HE.out.2]; rfl, by rw [HE.out.1]; exact (K2.out.nilO 5).sub (List.cons_sublist_cons.2 (List.nil_sublist _))⟩
  have HE := hide (issT_ok hk (o := o1) (e := e1) hz)
  rw [(encT_ok (o := o1) (e := e1) hz).1, (encT_ok (o := o1) (e := e1) hz).2] at HEN
  clear hk hz
  obtain ⟨r, HRr⟩ : ∃ r, Hid (recT s1 o1 n1 e1 = r) := ⟨_, hide rfl⟩
  have HRL : Hid (r.length = 24) := hide (by rw [← HRr.out, recT_len])
  have HRB : Hid (isB r) := hide (by rw [← HRr.out]; exact recT_isB _ _ _ _)
  obtain ⟨t, HT⟩ : ∃ t, Hid (tagTi key r = t) := ⟨_, hide rfl⟩
  have HTL : Hid ((byt t).length = 32) := hide (by rw [byt_length, ← HT.out, tagTi_len])
  have HTN : Hid (t.length = 32) := hide (by rw [← HT.out, tagTi_len])
  rw [HRr.out, HT.out] at HE
  rw [HRr.out] at HEN
  have HTG := hide (fun (x : World) (h : Ext w x) (B : Option Addr) (cb : Nat) (hv : Rd x B (byt r)) => ttag_any key r A c B cb x (HL.out.ext h) (HR.out.ext h) HB.out hc hlen hv HRB.out (by have := HRL.out; omega))
  rw [HT.out] at HTG
  have HCC := hide (fun (x : World) (A1 : Option Addr) (c1 g2 gs : Nat) (hB : Blk x gs 26 [.slice A1 r.length c1, .slice (some ⟨g2, 0, none⟩) t.length 32]) (h1 : Rd x A1 (byt r)) (h2 : Rd x (some ⟨g2, 0, none⟩) (byt t)) => concat_any r t A1 (some ⟨g2, 0, none⟩) c1 32 gs 26 x hB h1 h2 (by have := HRL.out; omega) (by have := HTN.out; omega) (by have := HRL.out; omega))
  rw [HRL.out] at HTG
  rw [HRL.out, HTN.out] at HCC
  clear HT HRr
  go_enter Tryd.func15, Tryd.ntmps15
  go_wp2_with fail
  (with_reducible refine (HGD.out _).mono ?_)
  rintro e w1 ⟨rfl, rfl⟩
  obtain ⟨c0, c1, c2, c3, cz⟩ := tk4 (H0.blk (List.Mem.head _))
  go_wp2_with fail
  (with_reducible refine (HEN.out _).mono ?_)
  rintro e w2 ⟨A2, c2', rfl, _, hS⟩
  rw [HRL.out]
  have H2 := H0.join hS
  dsimp only [List.nil_append, List.cons_append] at H2
  have K2 := hide H2
  clear H0 hS c0 c1 c2 c3 cz H2
  go_wp2_with fail
  (with_reducible refine (HTG.out _ K2.out.toExt A2 c2' (K2.out.get (List.Mem.head _))).mono ?_)
  rintro e w3 ⟨rfl, hx3⟩
  have H3 := K2.out.ext hx3
  clear K2 hx3 HTG
  have tok1 : True := trivial
  have tok2 : True := trivial
  go_upto_region 7 with (first
    | (have zz := tok1; clear zz tok1; refine wpList_alS H3 rfl 36 rfl (Z8 32) (by kernel_rfl) ?_; intro w5 hz9 H5; clear H3 hz9)
    | (have zz := tok2; clear zz tok2; refine wpList_stS [] H5 rfl 36 (.tmp 8) (.tmp 22) rfl rfl (cs := byt t) rfl (by rw [HTL.out]; kernel_rfl) (by rw [HTL.out]; rfl) (byt_one _) ?_; intro w6 H6; dsimp only [List.nil_append] at H6; clear H5))
  obtain ⟨g8, G8⟩ : ∃ g, w3.heap.size = g := ⟨_, rfl⟩
  rw [G8] at H6 ⊢
  clear G8
  have hg8 := (H6.blk (g := g8) (e := 36) (List.Mem.head _)).lt
  have K6 := hide H6
  clear H6
  have K7 := hide (K6.out.add 26 [.slice A2 24 c2', .slice (some ⟨g8, 0, none⟩) 32 32])
  have HBK := hide (Blk.new w6 26 [.slice A2 24 c2', .slice (some ⟨g8, 0, none⟩) 32 32])
  have HX := hide ((Ext.refl w6).alloc (.cells #[.slice A2 24 c2', .slice (some ⟨g8, 0, none⟩) 32 32] 26))
  have HR1 := hide ((K6.out.get (A := As.rd A2 (byt r)) (List.Mem.tail _ (List.Mem.head _))))
  have HR2 := hide ((K6.out.blk (g := g8) (e := 36) (List.Mem.head _)).rd)
  go_wp2_with fail
  refine (HCC.out _ A2 c2' g8 w6.heap.size HBK.out (HR1.out.ext HX.out) (HR2.out.ext HX.out)).mono ?_
  rintro e w8 ⟨v8, rfl, hS⟩
  have K8 := hide (((Sep.refl No w).ext (K6.out.toExt.trans HX.out)).join hS)
  clear hS K7 HBK HX HR1 HR2 K6 hg8
  go_wp2_with fail
  go_ret2
  exact ⟨v8, by rw [HE.out.2]; rfl, by rw [HE.out.1]; exact K8.out⟩
end Go.Proofs.YtamlngdjbmndlaaDoor
namespace Go.Proofs.YtamlngdjbmndlaaDoor
open Go.RowKit Go.Gr
set_option linter.unusedVariables false
set_option linter.unusedSimpArgs false
attribute [local go_sem] rdOp rdAt rdUpon Cls forall_fr
set_option maxRecDepth 100000 in
set_option maxHeartbeats 1000000 in
theorem rttag_any (key r : List Int) (A : Option Addr) (c : Nat) (B : Option Addr) (cb : Nat) (w : World) (hr : Rd w A (byt key)) (hb : isB key) (hc : key.length ≤ c) (hlen : key.length ≤ 100000)
    (hrb : Rd w B (byt r)) (hbb : isB r) (hlr : 0 < r.length) (hlb : r.length ≤ 1000) :
    Calls Tryd.prog 32 #[.slice A key.length c, .slice B r.length cb] w fun e w' => e = .returned (.agg (byt (tagTi key r)).toArray) ∧ Ext w w' := by
  obtain ⟨i0, hi, hz0, hz1, hz2⟩ := info_parts info8
  obtain ⟨bd, rfl⟩ := rd_some hrb hlr
  have HR := hide hr
  have HB := hide hb
  have HRB := hide hrb
  obtain ⟨m, HM⟩ : ∃ m, Hid ([116, 105, 99, 107, 101, 116] ++ r = m) := ⟨_, hide rfl⟩
  have HML : Hid (m.length = 6 + r.length) := hide (by rw [← HM.out, List.length_append]; rfl)
  have HMB : Hid (isB m) := hide (by rw [← HM.out]; exact isB_append ticB_isB hbb)
  obtain ⟨t, HT⟩ : ∃ t, Hid (tagTi key r = t) := ⟨_, hide rfl⟩
  have HTL : Hid ((byt t).length = 32) := hide (by rw [byt_length, ← HT.out, tagTi_len])
  have HTG := hide (fun (x : World) (h : Ext w x) (Av : Option Addr) (cv : Nat) (hv : Rd x Av (byt m)) => rtag_any key m A c Av cv x (HR.out.ext h) HB.out hc hlen hv HMB.out (by have := HML.out; omega))
  rw [show tagB key m = t by rw [← HM.out]; exact HT.out] at HTG
  rw [HT.out]
  clear hr hb hrb hbb HT
  have tok1 : True := trivial
  have tok2 : True := trivial
  have tok3 : True := trivial
  go_enter Tryd.func32, Tryd.ntmps32
  go_wp2_with (first
    | (have zz := tok1; clear zz tok1; refine wpList_alS (Sep.refl No w) rfl 36 rfl (Z8 32) (by kernel_rfl) ?_; intro w1 hz9 H1; clear hz9)
    | (have zz := tok2; clear zz tok2; refine wpList_litS H1 [116, 105, 99, 107, 101, 116] rfl (.tmp 6) rfl 6 6 rfl ?_; intro w2 H2; clear H1)
    | (have zz := tok3; clear zz tok3; at_builtin; refine wpList_growS H2 rfl (.tmp 7) (.tmp 8) 26 rfl i0 (.int .u8 0) 1 Tryd.underlying26 hi hz0 hz1 hz2 rfl (olds := byt [116, 105, 99, 107, 101, 116]) rfl rfl (H2.get (List.Mem.head _)) (A := bd) (m := r.length) (c := cb) (news := byt r) rfl (by rw [byt_length]) (H2.rdN HRB.out) (by omega) (by omega) (by decide) ?_; intro v3 w3 H3; rw [← byt_append, HM.out] at H3; obtain ⟨Av, cv, rfl, hrv, hlv⟩ := own_form (H3.owns (List.Mem.head _)); have K3 := hide H3; have HRV := hide hrv; clear H2 H3 hrv))
  (with_reducible refine (HTG.out _ K3.out.toExt Av cv HRV.out).mono ?_)
  rintro e w4 ⟨rfl, hx4⟩
  have H4 := ((K3.out.ext hx4).tail).tail
  clear K3 hx4 HTG HRV
  obtain ⟨gr, GR⟩ : ∃ g, w.heap.size = g := ⟨_, rfl⟩
  rw [GR] at H4 ⊢
  have tok5 : True := trivial
  go_wp2_with (have zz := tok5; clear zz tok5; refine wpList_stS [] H4 rfl 36 (.tmp 4) (.tmp 10) rfl rfl (cs := byt t) rfl (by rw [HTL.out]; kernel_rfl) (by rw [HTL.out]; rfl) (byt_one _) ?_; intro w9 H9; dsimp only [List.nil_append, List.cons_append] at H9; clear H4)
  have hB := H9.blk (g := gr) (e := 36) (cs := byt t) (List.Mem.head _)
  refine bodyPost_ret (v := .agg (byt t).toArray) (results_cell_row rfl _ _ gr 36 (byt t).toArray (0, 0) _ rfl hB Tryd.underlying36 rfl (by rw [List.size_toArray, HTL.out]; kernel_rfl)) rfl ⟨rfl, H9.toExt⟩
set_option maxRecDepth 100000 in
set_option maxHeartbeats 2000000 in
theorem rtissue_any (key : List Int) (A : Option Addr) (c : Nat) (s1 o1 n1 e1 : Int) (w : World) (hr : Rd w A (byt key)) (hb : isB key) (hc : key.length ≤ c) (hlen : key.length ≤ 100000) (ht : TiB s1 o1 n1 e1) :
    Calls Tryd.prog 16 #[.slice A key.length c, tkv s1 o1 n1 e1] w (RetO w (issTB key s1 o1 n1 e1) (issTE key s1 n1)) := by
  obtain ⟨i0, hi, hz0, hz1, hz2⟩ := info_parts info8
  have H0 := box_tk w s1 o1 n1 e1
  have HR := hide hr
  have HB := hide hb
  have HGD := hide (fun (x : World) => tkey_any key A c x)
  have HEN := hide (fun (x : World) => rtenc_any s1 o1 n1 e1 x ht)
  clear hr hb ht
  by_cases hk : keyOk key
  rotate_left
  · have HE := hide (issT_key hk s1 o1 n1 e1)
    rw [if_neg hk] at HGD
    clear hk
    go_enter Tryd.func16, Tryd.ntmps16
    go_wp2_with fail
    (with_reducible refine (HGD.out _).mono ?_)
    rintro e w1 ⟨rfl, rfl⟩
    have K0 := hide H0
    clear H0
    go_wp2_with fail
    go_ret2
    exact ⟨.slice none 0 0, by rw [HE.out.2]; rfl, by rw [HE.out.1]; exact (K0.out.nilO 5).sub (List.cons_sublist_cons.2 (List.nil_sublist _))⟩
  rw [if_pos hk] at HGD
  by_cases hz : s1 < 4096 ∧ n1 ≠ 0
  rotate_left
  · have HE := hide (issT_bad hk (o := o1) (e := e1) hz)
    rw [(encT_bad (o := o1) (e := e1) hz).1, (encT_bad (o := o1) (e := e1) hz).2] at HEN
    clear hk hz
    go_enter Tryd.func16, Tryd.ntmps16
    go_wp2_with fail
    (with_reducible refine (HGD.out _).mono ?_)
    rintro e w1 ⟨rfl, rfl⟩
    obtain ⟨c0, c1, c2, c3, cz⟩ := tk4 (H0.blk (List.Mem.head _))
    go_wp2_with fail
    (with_reducible refine (HEN.out _).mono ?_)
    rintro e w2 ⟨v2, rfl, hS⟩
    have K2 := hide (H0.ext hS.toExt)
    clear H0 hS c0 c1 c2 c3 cz
    go_wp2_with fail
    go_ret2
    exact ⟨.slice none 0 0, by rw [HE.out.2]; rfl, by rw [HE.out.1]; exact (K2.out.nilO 5).sub (List.cons_sublist_cons.2 (List.nil_sublist _))⟩
  have HE := hide (issT_ok hk (o := o1) (e := e1) hz)
  rw [(encT_ok (o := o1) (e := e1) hz).1, (encT_ok (o := o1) (e := e1) hz).2] at HEN
  clear hk hz
  obtain ⟨r, HRr⟩ : ∃ r, Hid (recT s1 o1 n1 e1 = r) := ⟨_, hide rfl⟩
  have HRL : Hid (r.length = 24) := hide (by rw [← HRr.out, recT_len])
  have HRB : Hid (isB r) := hide (by rw [← HRr.out]; exact recT_isB _ _ _ _)
  obtain ⟨t, HT⟩ : ∃ t, Hid (tagTi key r = t) := ⟨_, hide rfl⟩
  have HTL : Hid ((byt t).length = 32) := hide (by rw [byt_length, ← HT.out, tagTi_len])
  have HTN : Hid (t.length = 32) := hide (by rw [← HT.out, tagTi_len])
  rw [HRr.out, HT.out] at HE
  rw [HRr.out] at HEN
  have HTAG := hide (fun (x : World) (h : Ext w x) (Av : Option Addr) (cv : Nat) (hv : Rd x Av (byt r)) => rttag_any key r A c Av cv x (HR.out.ext h) HB.out hc hlen hv HRB.out (by have := HRL.out; omega) (by have := HRL.out; omega))
  rw [HT.out] at HTAG
  clear HT HRr
  go_enter Tryd.func16, Tryd.ntmps16
  go_wp2_with fail
  (with_reducible refine (HGD.out _).mono ?_)
  rintro e w1 ⟨rfl, rfl⟩
  obtain ⟨c0, c1, c2, c3, cz⟩ := tk4 (H0.blk (List.Mem.head _))
  go_wp2_with fail
  (with_reducible refine (HEN.out _).mono ?_)
  rintro e w2 ⟨v2, rfl, hS⟩
  have H2 := H0.join hS
  dsimp only [List.nil_append, List.cons_append] at H2
  obtain ⟨A2, c2', rfl, hr2, hc2⟩ := own_form (H2.owns (List.Mem.head _))
  have HR2 := hide hr2
  have K2 := hide H2
  clear H0 hS c0 c1 c2 c3 cz H2 hr2
  go_wp2_with fail
  (with_reducible refine (HTAG.out _ K2.out.toExt A2 c2' HR2.out).mono ?_)
  rintro e w3 ⟨rfl, hx3⟩
  have H3 := K2.out.ext hx3
  clear K2 hx3 HTAG HR2
  have tok1 : True := trivial
  have tok2 : True := trivial
  go_upto_region 8 with (first
    | (have zz := tok1; clear zz tok1; refine wpList_alS H3 rfl 36 rfl (Z8 32) (by kernel_rfl) ?_; intro w5 hz9 H5; clear H3 hz9)
    | (have zz := tok2; clear zz tok2; refine wpList_stS [] H5 rfl 36 (.tmp 8) (.tmp 25) rfl rfl (cs := byt t) rfl (by rw [HTL.out]; kernel_rfl) (by rw [HTL.out]; rfl) (byt_one _) ?_; intro w6 H6; dsimp only [List.nil_append] at H6; clear H5))
  obtain ⟨g8, G8⟩ : ∃ g, w3.heap.size = g := ⟨_, rfl⟩
  rw [G8] at H6 ⊢
  clear G8
  have K6 : Hid (Sep No w w6 [As.own 5 (.slice A2 r.length c2') (byt (r ++ t.take 0)), As.blk g8 36 (byt t)]) := hide (by
    rw [List.take_zero, List.append_nil]
    exact (H6.swap).sub (List.cons_sublist_cons.2 (List.cons_sublist_cons.2 (List.nil_sublist _))))
  clear H6
  go_wp2_with fail
  go_loopw [7, 9] (fun v i wr => ∃ k : Nat, i = .int .i64 k ∧ k ≤ 32 ∧ Hid (Sep No w wr [As.own 5 v (byt (r ++ t.take k)), As.blk g8 36 (byt t)])) (fun _ i _ => 32 - (intOf i).toNat)
  case atStart => exact ⟨0, rfl, by omega, K6⟩
  case round =>
    obtain ⟨k, rfl, hk, HS⟩ := hrel
    clear K6
    by_cases hlt : k < 32
    · have hkd : k < t.length := by rw [HTN.out]; exact hlt
      have c1 : wr.cell? ⟨g8, k, none⟩ = some (.int .u8 t[k]) := by
        rw [(HS.out.blk (g := g8) (e := 36) (cs := byt t) (List.Mem.tail _ (List.Mem.head _))).cell k, byt, List.getElem?_map, List.getElem?_eq_getElem hkd, Option.map_some]
      have hk32 : (k : Int) < 32 := by omega
      have HN : Hid (r ++ t.take (k + 1) = (r ++ t.take k) ++ [t[k]]) := hide (by rw [List.take_succ_eq_append_getElem hkd, List.append_assoc])
      have HLE : Hid ((byt (r ++ t.take k)).length < 1000000000) := hide (by rw [byt_length, List.length_append, List.length_take, HRL.out]; omega)
      obtain ⟨y, HY⟩ : ∃ y, Hid (t[k] = y) := ⟨_, hide rfl⟩
      rw [HY.out] at c1 HN
      have tok4 : True := trivial
      go_wp2_with (have zz := tok4; clear zz tok4; refine wpList_pushS [] HS.out rfl (.tmp 30) (.tmp 34) 26 rfl i0 (.int .u8 0) 1 Tryd.underlying26 hi hz0 hz1 hz2 rfl rfl rfl rfl HLE.out (by omega) ?_; intro v4 w4 H4; dsimp only [List.nil_append] at H4; have K4 := hide H4; clear H4)
      go_roundw
      case rel => exact ⟨k + 1, by go_num, by omega, hide (by rw [HN.out, byt_append]; exact K4.out)⟩
      case measure => simp [intOf]; omega
    · obtain rfl : k = 32 := by omega
      have H6 := HS.out
      rw [List.take_of_length_le (Nat.le_of_eq HTN.out)] at H6
      have K7 := hide H6
      clear HS H6
      go_wp2_with fail
      go_ret2
      exact ⟨_, by rw [HE.out.2]; rfl, by rw [HE.out.1]; exact K7.out.sub (List.cons_sublist_cons.2 (List.nil_sublist _))⟩
end Go.Proofs.YtamlngdjbmndlaaDoor
