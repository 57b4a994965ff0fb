/- Hmac: Tag and Verify of a key. -/
import Derived.Test.YtamlngdjbmndlaaDoorH7
namespace Go.Proofs.YtamlngdjbmndlaaDoor
open Go.RowKit Go.Gr
set_option linter.unusedVariables false
set_option linter.unusedSimpArgs false
/-- the tag of bytes -/
def tagB (key l : List Int) : List Int := outB key (xorB 54 (keyB key) ++ l)
theorem tagB_len (key l : List Int) : (tagB key l).length = 32 := outB_len _ _
theorem tagB_isB (key l : List Int) : isB (tagB key l) := outB_isB _ _
theorem ik_len (key : List Int) : (xorB 54 (keyB key)).length = 64 := by rw [xorB_len, keyB_len]
/-- a new mac into which bytes have been written: at each call what its parts are -/
theorem mac_parts {w0 w : World} {L : List As} {g gh : Nat} {v : Value} {key l : List Int} (H : Sep No w0 w (As.blk g 99 [ptr gh, v] :: AsHash gh l :: As.own 5 v (byt key) :: L)) :
    ∃ A c, v = .slice A key.length c ∧ Rd w A (byt key) ∧ key.length ≤ c ∧ Blk w g 99 [ptr gh, .slice A key.length c] ∧ HashAt w gh l ∧ w0.heap.size ≤ gh := by
  obtain ⟨A, c, rfl, h1, h2⟩ := own_form (H.owns (List.Mem.tail _ (List.Mem.tail _ (List.Mem.head _))))
  exact ⟨A, c, rfl, h1, h2, H.blk (List.Mem.head _), sep_hash H (List.Mem.tail _ (List.Mem.head _)), sep_hash_le H (l := l) (List.Mem.tail _ (List.Mem.head _))⟩
set_option maxRecDepth 100000 in
set_option maxHeartbeats 2000000 in
theorem htag_any (key l : List Int) (A : Option Addr) (c : Nat) (B : Option Addr) (cb : Nat) (w : World) (hl : Laid w) (hr : Rd w A (byt key)) (hb : isB key) (hc : key.length ≤ c) (hlen : key.length ≤ 100000)
    (hrb : Rd w B (byt l)) (hbb : isB l) (hcb : l.length ≤ cb) (hlb : l.length ≤ 100000) :
    Calls Tryd.prog 43 #[.slice A key.length c, .slice B l.length cb] w fun e w' => e = .returned (.agg (byt (tagB key l)).toArray) ∧ Ext w w' := by
  have h2 := hl.two
  have HL := hide hl
  have HR := hide hr
  have HB := hide hb
  have HRB := hide hrb
  have HBB := hide hbb
  have HPO : Hid (0 < l.length → ∀ ad, B = some ad → ad.block < w.heap.size) := hide (fun h => rd_before hrb (by rw [byt_length]; exact h))
  obtain ⟨t, HT⟩ : ∃ t, Hid (tagB key l = t) := ⟨_, hide rfl⟩
  have HTL : Hid ((byt t).length = 32) := hide (by rw [byt_length, ← HT.out, tagB_len])
  rw [HT.out]
  clear hl hr hb hrb hbb
  have tok : True := trivial
  go_enter Tryd.func43, Tryd.ntmps43
  go_wp2_with ((have zz := tok; clear zz tok; refine wpList_alS (Sep.refl No w) rfl 36 rfl (Z8 32) (by kernel_rfl) ?_; intro w1 hz1 H1))
  (with_reducible refine (mnew_any key A c _ (HL.out.ext H1.toExt) (H1.rdN HR.out) HB.out hc hlen).mono ?_)
  rintro e w2 ⟨g, gh, v, rfl, H2'⟩
  have H2 := H1.join H2'
  dsimp only [List.nil_append, List.cons_append] at H2
  clear H1 H2'
  obtain ⟨ik, HIK⟩ : ∃ ik, Hid (xorB 54 (keyB key) = ik) := ⟨_, hide rfl⟩
  have HIL : Hid (ik.length = 64) := hide (by rw [← HIK.out, ik_len])
  have HT2 : Hid (outB key (ik ++ l) = t) := hide (by rw [← HT.out, ← HIK.out]; rfl)
  rw [HIK.out] at H2
  go_wp2_with fail
  obtain ⟨Av, cv, rfl, hrv, hlv, hmv, hhv, hgv⟩ := mac_parts H2
  have HNE : Hid (0 < l.length → ∀ ad, B = some ad → ad.block ≠ gh) := hide (fun h ad e => by have := HPO.out h ad e; omega)
  have h2g : 2 ≤ gh := by omega
  (with_reducible refine (mwrite_any g gh _ ik l B cb _ (HL.out.ext H2.toExt) h2g hmv hhv (H2.rdN HRB.out) HNE.out HBB.out hcb (by have := HIL.out; omega)).mono ?_)
  rintro e w3 ⟨rfl, hh3, hu3⟩
  have H3 := sep_write (L1 := [_]) H2 hh3 hu3
  dsimp only [List.nil_append, List.cons_append] at H3
  clear hh3 hu3 H2 hrv hmv hhv HNE hlv
  obtain ⟨Aw, cw, ew, hrv, hlv, hmv, hhv, _⟩ := mac_parts H3
  have HM := hide (mtag_any g gh key (ik ++ l) Aw cw _ (HL.out.ext H3.toExt) hmv hhv hrv HB.out hlv hlen (by have := HIL.out; rw [List.length_append]; omega))
  rw [HT2.out] at HM
  clear hrv hmv hhv hlv ew
  go_wp2_with fail
  (with_reducible refine HM.out.mono ?_)
  rintro e w4 ⟨rfl, hx4⟩
  have H4 := H3.ext hx4
  clear H3 hx4 HM
  have hlt4 := (H4.blk (g := w.heap.size) (e := 36) (cs := Z8 32) (List.Mem.tail _ (List.Mem.tail _ (List.Mem.tail _ (List.Mem.head _))))).lt
  have tok1 : True := trivial
  have tok2 : True := trivial
  have tok3 : True := trivial
  have tok4 : True := trivial
  go_wp2_with (first
    | (have zz := tok1; clear zz tok1; refine wpList_alS H4 rfl 36 rfl (Z8 32) (by kernel_rfl) ?_; intro w5 hz5 H5; clear H4)
    | (have zz := tok2; clear zz tok2; refine wpList_stS [] H5 rfl 36 (.tmp 6) (.tmp 16) rfl rfl (cs := byt t) rfl (by rw [HTL.out]; kernel_rfl) (by rw [HTL.out]; rfl) (byt_one _) ?_; intro w6 H6; dsimp only [List.nil_append] at H6; clear H5)
    | (have zz := tok3; clear zz tok3; refine wpList_ldS H6 (List.Mem.head _) rfl 36 (.tmp 6) rfl rfl _ Tryd.underlying36 rfl (by rw [HTL.out]; kernel_rfl) ?_)
    | (have zz := tok4; clear zz tok4; refine wpList_stS [_, _, _, _] H6 rfl 36 (.tmp 4) (.tmp 18) rfl rfl (cs := byt t) rfl (by rw [HTL.out]; kernel_rfl) (by rw [HTL.out]; rfl) (byt_one _) ?_; intro w7 H7; dsimp only [List.nil_append, List.cons_append] at H7; clear H6))
  have hB := H7.blk (g := w.heap.size) (e := 36) (cs := byt t) (List.Mem.tail _ (List.Mem.tail _ (List.Mem.tail _ (List.Mem.tail _ (List.Mem.head _)))))
  refine bodyPost_ret (v := .agg (byt t).toArray) (results_cell_row rfl _ _ w.heap.size 36 (byt t).toArray (0, 0) _ rfl hB Tryd.underlying36 rfl (by rw [List.size_toArray, HTL.out]; kernel_rfl)) rfl ⟨rfl, H7.toExt⟩
end Go.Proofs.YtamlngdjbmndlaaDoor
