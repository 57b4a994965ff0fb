/- Hmac: a mac: Verify and Reset; Tag and Verify of a key. -/
import Derived.Test.YtckmbhdbabnmcaaDoorH6
namespace Go.Proofs.YtckmbhdbabnmcaaDoor
open Go.RowKit Go.Gr
set_option linter.unusedVariables false
set_option linter.unusedSimpArgs false
end Go.Proofs.YtckmbhdbabnmcaaDoor
namespace Go.Gr
open Go.RowKit
set_option linter.unusedVariables false
theorem Sep.joinU {G S : Nat → Prop} {w0 w w' : World} {A : As} {L M : List As} (h : Sep G w0 w (A :: L)) (k : Sep S w w' M) (hS : ∀ i, S i → A.fp i) : Sep G w0 w' (M ++ L) := by
  have hd := List.pairwise_cons.1 h.dis
  have hA : A ∈ A :: L := List.Mem.head _
  refine ⟨?_, ?_, ?_, ?_⟩
  · refine ⟨k.fr.os.trans h.fr.os, k.fr.tape.trans h.fr.tape, k.fr.output.trans h.fr.output, Nat.le_trans h.fr.size k.fr.size, fun i hi hn => ?_⟩
    refine (k.fr.block i (Nat.lt_of_lt_of_le hi h.fr.size) (fun hs => ?_)).trans (h.fr.block i hi hn)
    rcases h.own A hA i (hS i hs) with hg | hg
    · exact hn hg
    · omega
  · intro C hC
    rcases List.mem_append.1 hC with hC | hC
    · exact k.all C hC
    · exact C.loc (h.all C (List.Mem.tail _ hC)) fun i hi => k.fr.block i (C.lt (h.all C (List.Mem.tail _ hC)) i hi) (fun hs => hd.1 C hC i (hS i hs) hi)
  · intro C hC i hi
    rcases List.mem_append.1 hC with hC | hC
    · rcases k.own C hC i hi with h1 | h1
      · exact h.own A hA i (hS i h1)
      · exact .inr (Nat.le_trans h.fr.size h1)
    · exact h.own C (List.Mem.tail _ hC) i hi
  · refine List.pairwise_append.2 ⟨k.dis, hd.2, fun C hC D hD i hi hi' => ?_⟩
    have := D.lt (h.all D (List.Mem.tail _ hD)) i hi'
    rcases k.own C hC i hi with h1 | h1
    · exact hd.1 D hD i (hS i h1) hi'
    · omega
end Go.Gr
namespace Go.Proofs.YtckmbhdbabnmcaaDoor
open Go.RowKit Go.Gr
set_option linter.unusedVariables false
set_option linter.unusedSimpArgs false
/-- what Reset leaves -/
def ResetQ (w : World) (g : Nat) (key : List Int) (e : Ending) (w' : World) : Prop :=
  ∃ gh v, e = .returned (.int .i64 0) ∧ Sep (At g) w w' [As.blk g 70 [ptr gh, v], AsHash gh (xorB 54 (keyB key)), As.own 5 v (byt key)]
/-- the error of a tag -/
def sameE (a b : List Int) : Int := if a = b then 0 else 12
set_option maxRecDepth 100000 in
theorem mverify_any (g gh : Nat) (key l tag : List Int) (A : Option Addr) (c : Nat) (B : Option Addr) (cb : Nat) (w : World) (hl : Laid w) (hm : Blk w g 70 [ptr gh, .slice A key.length c]) (hh : HashAt w gh l) (hr : Rd w A (byt key))
    (hb : isB key) (hc : key.length ≤ c) (hlen : key.length ≤ 100000) (hll : l.length ≤ 1000000000) (hrt : Rd w B (byt tag)) (hbt : isB tag) (hlt : tag.length ≤ 100000) :
    Calls Tryd.prog 36 #[ptr g, .slice B tag.length cb] w fun e w' => e = .returned (.int .i64 (sameE (outB key l) tag)) ∧ Ext w w' := by
  have HT := hide (mtag_any g gh key l A c w hl hm hh hr hb hc hlen hll)
  have HRT := hide hrt
  have HBT := hide hbt
  obtain ⟨o, HO⟩ : ∃ o, Hid (outB key l = o) := ⟨_, hide rfl⟩
  have HOL : Hid ((byt o).length = 32) := hide (by rw [byt_length, ← HO.out, outB_len])
  have HON : Hid (o.length = 32) := hide (by rw [← HO.out, outB_len])
  have HOB : Hid (isB o) := hide (by rw [← HO.out]; exact outB_isB key l)
  rw [HO.out] at HT ⊢
  clear hl hm hh hr hb hrt hbt
  have tok : True := trivial
  have tok2 : True := trivial
  go_enter Tryd.func36, Tryd.ntmps36
  go_wp2_with fail
  (with_reducible refine HT.out.mono ?_)
  rintro e w1 ⟨rfl, hx1⟩
  have H1 := (Sep.refl No w).ext hx1
  have hs1 := hx1.size
  clear HT hx1
  go_wp2_with (first
    | (have zz := tok; clear zz tok; refine wpList_alS H1 rfl 35 rfl (Z8 32) (by kernel_rfl) ?_; intro w2 hz2 H2)
    | (have zz := tok2; clear zz tok2; refine wpList_stS [] H2 rfl 35 (.tmp 5) (.tmp 12) rfl rfl (cs := byt o) rfl (by rw [HOL.out]; kernel_rfl) (by rw [HOL.out]; rfl) (byt_one _) ?_; intro w3 H3; dsimp only [List.nil_append] at H3; have hlt3 := (H3.blk (g := w1.heap.size) (e := 35) (cs := byt o) (List.Mem.head _)).lt; have K3 := hide H3; clear H2 H1 H3))
  have hE := equal_any o tag (some ⟨w1.heap.size, 0, none⟩) B 32 cb _ (K3.out.blk (g := w1.heap.size) (e := 35) (cs := byt o) (List.Mem.head _)).rd (K3.out.rdN HRT.out) HOB.out HBT.out (by have := HON.out; omega) hlt
  rw [HON.out] at hE
  (with_reducible refine hE.mono ?_)
  rintro e w4 ⟨rfl, hx4⟩
  have H4 := hide (K3.out.toExt.trans hx4)
  clear hE K3 hx4
  by_cases hot : o = tag
  · have hd : decide (o = tag) = true := by simpa using hot
    have hs : Hid (sameE o tag = 0) := hide (by unfold sameE; rw [if_pos hot])
    clear hot
    go_wp2_with fail
    go_ret
    exact ⟨by rw [hs.out]; rfl, H4.out⟩
  · have hd : decide (o = tag) = false := by simpa using hot
    have hs : Hid (sameE o tag = 12) := hide (by unfold sameE; rw [if_neg hot])
    clear hot
    go_wp2_with fail
    go_ret
    exact ⟨by rw [hs.out]; rfl, H4.out⟩
end Go.Proofs.YtckmbhdbabnmcaaDoor
