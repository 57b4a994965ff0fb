/- Hmac: a mac: Write and Tag. -/
import Derived.Test.YtamlngdjbmndlaaDoorH5
namespace Go.Proofs.YtamlngdjbmndlaaDoor
open Go.RowKit Go.Gr
set_option linter.unusedVariables false
set_option linter.unusedSimpArgs false
theorem mwrite_any (g gh : Nat) (v : Value) (l b : List Int) (A : Option Addr) (c : Nat) (w : World) (hl : Laid w) (hg : 2 ≤ gh) (hm : Blk w g 99 [ptr gh, v]) (hh : HashAt w gh l) (hr : Rd w A (byt b))
    (hne : 0 < b.length → ∀ ad, A = some ad → ad.block ≠ gh) (hb : isB b) (hbc : b.length ≤ c) (hlen : l.length + b.length < 9223372036854775808) :
    Calls Tryd.prog 57 #[ptr g, .slice A b.length c] w fun e w' => e = .returned (.int .i64 0) ∧ HashAt w' gh (l ++ b) ∧ Upd gh w w' := by
  obtain ⟨c1, c2, hgl⟩ := cells2 hm
  have HM := hide hm
  have HL := hide hl
  have HH := hide hh
  have HR := hide hr
  have HNE := hide hne
  have HB := hide hb
  clear hm hl hh hr hne hb
  go_enter Tryd.func57, Tryd.ntmps57
  go_wp2_with fail
  (with_reducible refine (mthere_yes g gh v _ HM.out).mono ?_)
  rintro e w1 ⟨rfl, rfl⟩
  go_wp2_with fail
  (with_reducible refine (write_any gh l b A c _ HL.out hg HH.out HR.out HNE.out HB.out hbc hlen).mono ?_)
  rintro e w1 ⟨rfl, hh1, hu1⟩
  have H1 := hide hh1
  have U1 := hide hu1
  clear hh1 hu1 c1 c2
  go_wp2_with fail
  go_ret
  exact ⟨rfl, H1.out, U1.out⟩
/-- what Tag returns: l is what the inner hash has got -/
def outB (key l : List Int) : List Int := digest (xorB 92 (keyB key) ++ digest l)
theorem outB_len (key l : List Int) : (outB key l).length = 32 := digest_len _
theorem outB_isB (key l : List Int) : isB (outB key l) := digest_isB _
set_option maxRecDepth 100000 in
set_option maxHeartbeats 2000000 in
theorem mtag_any (g gh : Nat) (key l : List Int) (A : Option Addr) (c : Nat) (w : World) (hl : Laid w) (hm : Blk w g 99 [ptr gh, .slice A key.length c]) (hh : HashAt w gh l) (hr : Rd w A (byt key))
    (hb : isB key) (hc : key.length ≤ c) (hlen : key.length ≤ 100000) (hll : l.length ≤ 1000000000) :
    Calls Tryd.prog 40 #[ptr g] w fun e w' => e = .returned (.tuple #[.agg (byt (outB key l)).toArray, .int .i64 0]) ∧ Ext w w' := by
  have HM := hide hm
  have HL := hide hl
  have HH := hide hh
  have HR := hide hr
  have HB := hide hb
  have h2 := hl.two
  clear hm hl hh hr hb
  have tok : True := trivial
  go_enter Tryd.func40, Tryd.ntmps40
  go_wp2_with ((have zz := tok; clear zz tok; refine wpList_alS (Sep.refl No w) rfl 36 rfl (Z8 32) (by kernel_rfl) ?_; intro w1 hz1 H1))
  (with_reducible refine (mthere_yes g gh _ _ (HM.out.ext H1.toExt)).mono ?_)
  rintro e w2 ⟨rfl, rfl⟩
  obtain ⟨c1, c2, hgl⟩ := cells2 (HM.out.ext H1.toExt)
  have hwl : w.heap.size ≤ w1.heap.size := H1.le
  have HS := hide (hsum_any gh l w1 (HL.out.ext H1.toExt) (HH.out.ext H1.toExt) (by omega))
  obtain ⟨d, HD⟩ : ∃ d, Hid (digest l = d) := ⟨_, hide rfl⟩
  have HDL : Hid ((byt d).length = 32) := hide (by rw [byt_length, ← HD.out, digest_len])
  have HDN : Hid (d.length = 32) := hide (by rw [← HD.out, digest_len])
  have HDB : Hid (isB d) := hide (by rw [← HD.out]; exact digest_isB l)
  have HOUT : Hid (outB key l = digest (xorB 92 (keyB key) ++ d)) := hide (by unfold outB; rw [HD.out])
  rw [HD.out] at HS
  go_wp2_with fail
  (with_reducible refine HS.out.mono ?_)
  rintro e w3 ⟨rfl, hx3⟩
  have H3 := H1.ext hx3
  clear H1 hx3 HS c1 c2
  have hs3 : w.heap.size < w3.heap.size := (H3.blk (g := w.heap.size) (e := 36) (cs := Z8 32) (List.Mem.head _)).lt
  have tok2 : True := trivial
  have tok3 : True := trivial
  go_wp2_with (first
    | (have zz := tok2; clear zz tok2; refine wpList_alS H3 rfl 36 rfl (Z8 32) (by kernel_rfl) ?_; intro w4 hz4 H4)
    | (have zz := tok3; clear zz tok3; refine wpList_stS [] H4 rfl 36 (.tmp 4) (.tmp 17) rfl rfl (cs := byt d) rfl (by rw [HDL.out]; kernel_rfl) (by rw [HDL.out]; rfl) (byt_one _) ?_; intro w5 H5; dsimp only [List.nil_append] at H5; clear H4 H3))
  (with_reducible refine (new_ex _ (HL.out.ext H5.toExt)).mono ?_)
  rintro e w6 ⟨go, rfl, hgo, hh6, hx6⟩
  have H6 := H5.new (B := AsHash go []) hx6 hh6 (fun i hi => by cases hi; exact Nat.le_of_eq hgo.symm)
  have h2go : 2 ≤ go := by have := H5.le; omega
  have hgo3 : w3.heap.size < go := by have := (H5.blk (g := w3.heap.size) (e := 36) (cs := byt d) (List.Mem.head _)).lt; omega
  clear hgo hh6 hx6 H5
  obtain ⟨c1, c2, hgl6⟩ := cells2 (HM.out.ext H6.toExt)
  go_wp2_with fail
  obtain ⟨mk, HMK⟩ : ∃ mk, Hid (xorB 92 (keyB key) = mk) := ⟨_, hide rfl⟩
  have HMB : Hid (isB mk) := hide (by rw [← HMK.out]; exact xorB_isB (by decide) (keyB_isB HB.out))
  have HML : Hid (mk.length = 64) := hide (by rw [← HMK.out, xorB_len, keyB_len])
  have hgo6 : go < w6.heap.size := (H6.get (A := AsHash go []) (List.Mem.head _)).lt
  (with_reducible refine (mpad_any key A c 92 _ (HL.out.ext H6.toExt) (HR.out.ext H6.toExt) HB.out hc hlen).mono ?_)
  rintro e w7 ⟨gp, rfl, hgp, hrp, hxp⟩
  rw [HMK.out] at hrp ⊢
  have H7 := H6.ext hxp
  have HRP := hide hrp
  have HNE : Hid (0 < mk.length → ∀ ad, some (⟨gp, 0, none⟩ : Addr) = some ad → ad.block ≠ go) := hide (by rintro _ ad ⟨⟩; show gp ≠ go; omega)
  clear H6 hxp hrp c1 c2 hgl6 hgp
  go_wp2_with fail
  (with_reducible refine (write_any go [] mk (some ⟨gp, 0, none⟩) mk.length _ (HL.out.ext H7.toExt) h2go (sep_hash H7 (List.Mem.head _)) HRP.out HNE.out HMB.out (Nat.le_refl _) (by have := HML.out; simp only [List.length_nil]; omega)).mono ?_)
  rintro e w8 ⟨rfl, hh8, hu8⟩
  have H8 := sep_write (L1 := []) H7 hh8 hu8
  dsimp only [List.nil_append] at H8
  clear hh8 hu8 H7 HRP HNE
  have hbd := H8.blk (g := w3.heap.size) (e := 36) (cs := byt d) (List.Mem.tail _ (List.Mem.head _))
  have HRD := hide hbd.rd
  have HNE : Hid (0 < d.length → ∀ ad, some (⟨w3.heap.size, 0, none⟩ : Addr) = some ad → ad.block ≠ go) := hide (by rintro _ ad ⟨⟩; show w3.heap.size ≠ go; omega)
  have hg3 : w3.heap.size < w8.heap.size := hbd.lt
  clear hbd
  go_wp2_with fail
  have hW := write_any go mk d (some ⟨w3.heap.size, 0, none⟩) 32 _ (HL.out.ext H8.toExt) h2go (sep_hash H8 (List.Mem.head _)) HRD.out HNE.out HDB.out (Nat.le_of_eq HDN.out) (by have := HML.out; have := HDN.out; omega)
  rw [HDN.out] at hW
  (with_reducible refine hW.mono ?_)
  rintro e w9 ⟨rfl, hh9, hu9⟩
  have H9 := sep_write (L1 := []) H8 hh9 hu9
  dsimp only [List.nil_append] at H9
  clear hW hh9 hu9 H8 HRD HNE
  have HS := hide (hsum_any go (mk ++ d) w9 (HL.out.ext H9.toExt) (sep_hash H9 (List.Mem.head _)) (by have := HML.out; have := HDN.out; rw [List.length_append]; omega))
  rw [HMK.out] at HOUT
  rw [← HOUT.out] at HS
  obtain ⟨o, HO⟩ : ∃ o, Hid (outB key l = o) := ⟨_, hide rfl⟩
  have HOL : Hid ((byt o).length = 32) := hide (by rw [byt_length, ← HO.out, outB_len])
  rw [HO.out] at HS
  go_wp2_with fail
  (with_reducible refine HS.out.mono ?_)
  rintro e wa ⟨rfl, hxa⟩
  have Ha := H9.ext hxa
  clear HS hxa H9
  have tok4 : True := trivial
  go_wp2_with (have zz := tok4; clear zz tok4; refine wpList_stS [AsHash go (mk ++ d), As.blk w3.heap.size 36 (byt d)] Ha rfl 36 (.tmp 2) (.tmp 36) rfl rfl (cs := byt o) rfl (by rw [HOL.out]; kernel_rfl) (by rw [HOL.out]; rfl) (byt_one _) ?_; intro wb Hb; dsimp only [List.nil_append, List.cons_append] at Hb; clear Ha)
  have hB := Hb.blk (g := w.heap.size) (e := 36) (cs := byt o) (List.Mem.tail _ (List.Mem.tail _ (List.Mem.head _)))
  refine bodyPost_ret (v := .tuple #[.agg (byt o).toArray, .int .i64 0]) (results_row_tmp rfl _ _ w.heap.size 36 (byt o).toArray (0, 0) _ rfl hB Tryd.underlying36 rfl (by rw [List.size_toArray, HOL.out]; kernel_rfl) rfl) rfl ⟨by rw [HO.out], Hb.toExt⟩
end Go.Proofs.YtamlngdjbmndlaaDoor
