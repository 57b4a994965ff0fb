/- Lists of waiters: one call, made of the program and of the reference. -/
import Derived.Test.YteecgieigjfjiaaW19
import Derived.Test.YteecgieigjfjiaaWA
namespace Go.Proofs.Yteecgieigjfjiaa
open Go.RowKit Go.Gr Go.Wl
set_option linter.unusedVariables false
set_option linter.unusedSimpArgs false
attribute [local go_sem] rdOp rdAt rdUpon Cls forall_fr
theorem cells3 {w : World} {g : Nat} {e : TypeId} {x y z : Value} (h : Blk w g e [x, y, z]) : w.cell? ⟨g, 0, none⟩ = some x ∧ w.cell? ⟨g, 1, none⟩ = some y ∧ w.cell? ⟨g, 2, none⟩ = some z ∧ g < w.heap.size := ⟨h.cell 0, h.cell 1, h.cell 2, h.lt⟩
theorem sep_rf_to {G : Nat → Prop} {w0 w w' : World} {c : Nat} (L1 : List As) {L2 : List As} {A B : Option Addr} {vs : List Value} {S S' : St} {v : Value} (K : Sep G w0 w (L1 ++ AsRf A B vs S :: L2)) (hR : RfTo c w A B vs S w' v S') :
    ∃ B' vs' d', v = rv A B' S'.length c d' ∧ Sep G w0 w' (L1 ++ AsRf A B' vs' S' :: L2) := by
  obtain ⟨B', vs', d', rfl, hp, hx, hf⟩ := hR
  exact ⟨B', vs', d', rfl, K.upd (B := AsRf A B' vs' S') (Fr.of_ext hx) (fun _ h => h.elim) hp hf⟩
/-- what a call makes of lists -/
def oneS (S : St) (x : Cl) : St :=
  if x.what.tmod 8 = 0 ∨ x.what.tmod 8 = 1 then (joinS S x.sec x.own).1 else if x.what.tmod 8 = 2 then (leaveS S x.sec x.own).1 else if x.what.tmod 8 = 5 ∨ x.what.tmod 8 = 6 then (takeS S x.sec).1 else S
/-- the lists and the reference's -/
def GG (g gr : Nat) (A B : Option Addr) (vs : List Value) (S : St) (k : Nat) : Prop := (AsLs g gr S).fp k ∨ (AsRf A B vs S).fp k
theorem ls_ok {g gr : Nat} {S : St} {w : World} (h : (AsLs g gr S).p w) : Ok S := by
  obtain ⟨R, hL, rfl⟩ := h
  exact hL.ok
def OneQ (g gr : Nat) (A B : Option Addr) (vs : List Value) (S S' : St) (c : Nat) (w : World) (e : Ending) (w' : World) : Prop :=
  ∃ B' vs' d', e = .returned (.tuple #[rv A B' S'.length c d', .bool true]) ∧ Sep (GG g gr A B vs S) w w' [AsLs g gr S', AsRf A B' vs' S']
set_option maxRecDepth 100000 in
set_option maxHeartbeats 4000000 in
theorem one_join {g gr : Nat} {A B : Option Addr} {vs : List Value} {S : St} {c d : Nat} {w : World} (x : Cl) (hx : x.ok) (HS : Sep (GG g gr A B vs S) w w [AsLs g gr S, AsRf A B vs S]) (m : Int) (hm : x.what.tmod 8 = m) (hm8 : m = 0 ∨ m = 1) : Calls Try.prog 18 #[pt g, rv A B S.length c d, .agg #[.int .u8 x.what, .int .i64 x.sec, .int .u32 x.own]] w (OneQ g gr A B vs S (joinS S x.sec x.own).1 c w) := by
  obtain ⟨⟨hw0, hw1⟩, ⟨hs0, hs1⟩, ho0, ho1⟩ := hx
  have hgr : gr < w.heap.size := (AsLs g gr S).lt (HS.get (A := AsLs g gr S) (List.Mem.head _)) gr (.inr rfl)
  have hok := ls_ok (HS.get (A := AsLs g gr S) (List.Mem.head _))
  have H1 : Sep (GG g gr A B vs S) w (World.alloc w (.cells #[.slice A S.length c, .slice B S.length d] 45)) (As.blk w.heap.size 45 [.slice A S.length c, .slice B S.length d] :: [AsLs g gr S, AsRf A B vs S]) := Sep.add HS 45 [.slice A S.length c, .slice B S.length d]
  have H2 : Sep (GG g gr A B vs S) w (World.alloc (World.alloc w (.cells #[.slice A S.length c, .slice B S.length d] 45)) (.cells #[.int .u8 x.what, .int .i64 x.sec, .int .u32 x.own] 31)) (As.blk (World.alloc w (.cells #[.slice A S.length c, .slice B S.length d] 45)).heap.size 31 [.int .u8 x.what, .int .i64 x.sec, .int .u32 x.own] :: As.blk w.heap.size 45 [.slice A S.length c, .slice B S.length d] :: [AsLs g gr S, AsRf A B vs S]) := Sep.add H1 31 [.int .u8 x.what, .int .i64 x.sec, .int .u32 x.own]
  rw [show (World.alloc w (.cells #[.slice A S.length c, .slice B S.length d] 45)).heap.size = w.heap.size + 1 by simp] at H2
  have tok1 : True := trivial
  clear HS H1
  obtain ⟨⟨S', a, ee⟩, hJ⟩ : ∃ t, joinS S x.sec x.own = t := ⟨_, rfl⟩
  have JP := hide (fun (y : World) (h : (AsLs g gr S).p y) => join_any (i := x.sec) (o := x.own) h ⟨ho0, ho1⟩)
  have RP := hide (fun (y : World) (h : (AsRf A B vs S).p y) => rjoin_any (c := c) (d := d) (i := x.sec) (o := x.own) h hok ⟨ho0, ho1⟩)
  rw [hJ] at JP RP ⊢
  dsimp only at JP RP ⊢
  clear hJ hok
  rcases hm8 with rfl | rfl
  · go_enter Try.func18, Try.ntmps18
    go_upto_region 1 with (have zz := tok1; clear zz tok1; refine wpList_alS H2 rfl 45 rfl [.slice none 0 0, .slice none 0 0] (by kernel_rfl) ?_; intro w1 hz1 K1; clear hz1 H2)
    rw [show (World.alloc (World.alloc w (.cells #[.slice A S.length c, .slice B S.length d] 45)) (.cells #[.int .u8 x.what, .int .i64 x.sec, .int .u32 x.own] 31)).heap.size = w.heap.size + 1 + 1 by simp] at K1
    obtain ⟨g4, G4⟩ : ∃ g, w.heap.size = g := ⟨_, rfl⟩
    rw [G4] at K1 hgr ⊢
    have hG4 := hide G4
    clear G4
    obtain ⟨x0, x1, x2, hg5⟩ := cells3 (K1.blk (g := g4 + 1) (e := 31) (cs := [.int .u8 x.what, .int .i64 x.sec, .int .u32 x.own]) (List.Mem.tail _ (List.Mem.head _)))
    obtain ⟨b0, b1, hg4⟩ := cells2 (K1.blk (g := g4) (e := 45) (cs := [.slice A S.length c, .slice B S.length d]) (List.Mem.tail _ (List.Mem.tail _ (List.Mem.head _))))
    have JJ := hide (JP.out _ (K1.get (A := AsLs g gr S) (List.Mem.tail _ (List.Mem.tail _ (List.Mem.tail _ (List.Mem.head _))))))
    have KK := hide K1
    clear K1
    go_wp2_with fail
    (with_reducible refine JJ.out.mono ?_)
    rintro e w2 ⟨rfl, hp2, hu2⟩
    have K2 := sep_ls [_, _, _] KK.out hp2 hu2
    dsimp only [List.nil_append, List.cons_append] at K2
    clear KK hp2 hu2 JJ x0 x1 x2 hg5 b0 b1 hg4
    obtain ⟨x0, x1, x2, hg5⟩ := cells3 (K2.blk (g := g4 + 1) (e := 31) (cs := [.int .u8 x.what, .int .i64 x.sec, .int .u32 x.own]) (List.Mem.tail _ (List.Mem.head _)))
    obtain ⟨b0, b1, hg4⟩ := cells2 (K2.blk (g := g4) (e := 45) (cs := [.slice A S.length c, .slice B S.length d]) (List.Mem.tail _ (List.Mem.tail _ (List.Mem.head _))))
    have KK := hide K2
    clear K2
    go_wp2_with fail
    (with_reducible refine (RP.out _ (KK.out.get (A := AsRf A B vs S) (List.Mem.tail _ (List.Mem.tail _ (List.Mem.tail _ (List.Mem.tail _ (List.Mem.head _))))))).mono ?_)
    rintro e w4 ⟨v4, rfl, hRF⟩
    obtain ⟨B', vs', d', rfl, K4⟩ := sep_rf_to [_, _, _, _] KK.out hRF
    dsimp only [List.nil_append, List.cons_append] at K4
    clear KK hRF x0 x1 x2 hg5 b0 b1 hg4
    have KK := hide K4
    clear K4
    have tok1 : True := trivial
    have tok2 : True := trivial
    have tok3 : True := trivial
    have tok4 : True := trivial
    go_wp2_with (first
      | (have zz := tok1; clear zz tok1; refine wpList_alS KK.out rfl 45 rfl [.slice none 0 0, .slice none 0 0] (by kernel_rfl) ?_; intro w5 hz5 K5; clear hz5)
      | (have zz := tok2; clear zz tok2; refine wpList_stS [] K5 rfl 45 (.tmp 10) (.tmp 54) rfl rfl (cs := [.slice A S'.length c, .slice B' S'.length d']) rfl (by kernel_rfl) rfl (refs_one _ _ rfl rfl) ?_; intro w6 K6; dsimp only [List.nil_append] at K6; clear K5)
      | (have zz := tok3; clear zz tok3; refine wpList_ldS K6 (List.Mem.head _) rfl 45 (.tmp 10) rfl rfl _ Try.underlying45 rfl (by kernel_rfl) ?_)
      | (have zz := tok4; clear zz tok4; refine wpList_stS [_] K6 rfl 45 (.tmp 6) (.tmp 57) rfl rfl (cs := [.slice A S'.length c, .slice B' S'.length d']) rfl (by kernel_rfl) rfl (refs_one _ _ rfl rfl) ?_; intro w7 K7; dsimp only [List.nil_append, List.cons_append] at K7; clear K6))
    refine bodyPost_ret (v := .tuple #[rv A B' S'.length c d', .bool true]) (results_row_tmp rfl _ _ (g4 + 1 + 1) 45 #[.slice A S'.length c, .slice B' S'.length d'] (0, 0) _ rfl (K7.blk (g := g4 + 1 + 1) (e := 45) (List.Mem.tail _ (List.Mem.head _))) Try.underlying45 rfl (by kernel_rfl) rfl) rfl ⟨_, _, _, rfl, K7.tail.tail.tail.tail⟩
  · go_enter Try.func18, Try.ntmps18
    go_upto_region 1 with (have zz := tok1; clear zz tok1; refine wpList_alS H2 rfl 45 rfl [.slice none 0 0, .slice none 0 0] (by kernel_rfl) ?_; intro w1 hz1 K1; clear hz1 H2)
    rw [show (World.alloc (World.alloc w (.cells #[.slice A S.length c, .slice B S.length d] 45)) (.cells #[.int .u8 x.what, .int .i64 x.sec, .int .u32 x.own] 31)).heap.size = w.heap.size + 1 + 1 by simp] at K1
    obtain ⟨g4, G4⟩ : ∃ g, w.heap.size = g := ⟨_, rfl⟩
    rw [G4] at K1 hgr ⊢
    have hG4 := hide G4
    clear G4
    obtain ⟨x0, x1, x2, hg5⟩ := cells3 (K1.blk (g := g4 + 1) (e := 31) (cs := [.int .u8 x.what, .int .i64 x.sec, .int .u32 x.own]) (List.Mem.tail _ (List.Mem.head _)))
    obtain ⟨b0, b1, hg4⟩ := cells2 (K1.blk (g := g4) (e := 45) (cs := [.slice A S.length c, .slice B S.length d]) (List.Mem.tail _ (List.Mem.tail _ (List.Mem.head _))))
    have JJ := hide (JP.out _ (K1.get (A := AsLs g gr S) (List.Mem.tail _ (List.Mem.tail _ (List.Mem.tail _ (List.Mem.head _))))))
    have KK := hide K1
    clear K1
    go_wp2_with fail
    (with_reducible refine JJ.out.mono ?_)
    rintro e w2 ⟨rfl, hp2, hu2⟩
    have K2 := sep_ls [_, _, _] KK.out hp2 hu2
    dsimp only [List.nil_append, List.cons_append] at K2
    clear KK hp2 hu2 JJ x0 x1 x2 hg5 b0 b1 hg4
    obtain ⟨x0, x1, x2, hg5⟩ := cells3 (K2.blk (g := g4 + 1) (e := 31) (cs := [.int .u8 x.what, .int .i64 x.sec, .int .u32 x.own]) (List.Mem.tail _ (List.Mem.head _)))
    obtain ⟨b0, b1, hg4⟩ := cells2 (K2.blk (g := g4) (e := 45) (cs := [.slice A S.length c, .slice B S.length d]) (List.Mem.tail _ (List.Mem.tail _ (List.Mem.head _))))
    have KK := hide K2
    clear K2
    go_wp2_with fail
    (with_reducible refine (RP.out _ (KK.out.get (A := AsRf A B vs S) (List.Mem.tail _ (List.Mem.tail _ (List.Mem.tail _ (List.Mem.tail _ (List.Mem.head _))))))).mono ?_)
    rintro e w4 ⟨v4, rfl, hRF⟩
    obtain ⟨B', vs', d', rfl, K4⟩ := sep_rf_to [_, _, _, _] KK.out hRF
    dsimp only [List.nil_append, List.cons_append] at K4
    clear KK hRF x0 x1 x2 hg5 b0 b1 hg4
    have KK := hide K4
    clear K4
    have tok1 : True := trivial
    have tok2 : True := trivial
    have tok3 : True := trivial
    have tok4 : True := trivial
    go_wp2_with (first
      | (have zz := tok1; clear zz tok1; refine wpList_alS KK.out rfl 45 rfl [.slice none 0 0, .slice none 0 0] (by kernel_rfl) ?_; intro w5 hz5 K5; clear hz5)
      | (have zz := tok2; clear zz tok2; refine wpList_stS [] K5 rfl 45 (.tmp 10) (.tmp 54) rfl rfl (cs := [.slice A S'.length c, .slice B' S'.length d']) rfl (by kernel_rfl) rfl (refs_one _ _ rfl rfl) ?_; intro w6 K6; dsimp only [List.nil_append] at K6; clear K5)
      | (have zz := tok3; clear zz tok3; refine wpList_ldS K6 (List.Mem.head _) rfl 45 (.tmp 10) rfl rfl _ Try.underlying45 rfl (by kernel_rfl) ?_)
      | (have zz := tok4; clear zz tok4; refine wpList_stS [_] K6 rfl 45 (.tmp 6) (.tmp 57) rfl rfl (cs := [.slice A S'.length c, .slice B' S'.length d']) rfl (by kernel_rfl) rfl (refs_one _ _ rfl rfl) ?_; intro w7 K7; dsimp only [List.nil_append, List.cons_append] at K7; clear K6))
    refine bodyPost_ret (v := .tuple #[rv A B' S'.length c d', .bool true]) (results_row_tmp rfl _ _ (g4 + 1 + 1) 45 #[.slice A S'.length c, .slice B' S'.length d'] (0, 0) _ rfl (K7.blk (g := g4 + 1 + 1) (e := 45) (List.Mem.tail _ (List.Mem.head _))) Try.underlying45 rfl (by kernel_rfl) rfl) rfl ⟨_, _, _, rfl, K7.tail.tail.tail.tail⟩
set_option maxRecDepth 100000 in
set_option maxHeartbeats 4000000 in
theorem one_take {g gr : Nat} {A B : Option Addr} {vs : List Value} {S : St} {c d : Nat} {w : World} (x : Cl) (hx : x.ok) (HS : Sep (GG g gr A B vs S) w w [AsLs g gr S, AsRf A B vs S]) (m : Int) (hm : x.what.tmod 8 = m) (hm8 : m = 5 ∨ m = 6) : Calls Try.prog 18 #[pt g, rv A B S.length c d, .agg #[.int .u8 x.what, .int .i64 x.sec, .int .u32 x.own]] w (OneQ g gr A B vs S (takeS S x.sec).1 c w) := by
  obtain ⟨⟨hw0, hw1⟩, ⟨hs0, hs1⟩, ho0, ho1⟩ := hx
  have hgr : gr < w.heap.size := (AsLs g gr S).lt (HS.get (A := AsLs g gr S) (List.Mem.head _)) gr (.inr rfl)
  have hok := ls_ok (HS.get (A := AsLs g gr S) (List.Mem.head _))
  have H1 : Sep (GG g gr A B vs S) w (World.alloc w (.cells #[.slice A S.length c, .slice B S.length d] 45)) (As.blk w.heap.size 45 [.slice A S.length c, .slice B S.length d] :: [AsLs g gr S, AsRf A B vs S]) := Sep.add HS 45 [.slice A S.length c, .slice B S.length d]
  have H2 : Sep (GG g gr A B vs S) w (World.alloc (World.alloc w (.cells #[.slice A S.length c, .slice B S.length d] 45)) (.cells #[.int .u8 x.what, .int .i64 x.sec, .int .u32 x.own] 31)) (As.blk (World.alloc w (.cells #[.slice A S.length c, .slice B S.length d] 45)).heap.size 31 [.int .u8 x.what, .int .i64 x.sec, .int .u32 x.own] :: As.blk w.heap.size 45 [.slice A S.length c, .slice B S.length d] :: [AsLs g gr S, AsRf A B vs S]) := Sep.add H1 31 [.int .u8 x.what, .int .i64 x.sec, .int .u32 x.own]
  rw [show (World.alloc w (.cells #[.slice A S.length c, .slice B S.length d] 45)).heap.size = w.heap.size + 1 by simp] at H2
  have tok1 : True := trivial
  clear HS H1
  obtain ⟨⟨S', a, ee⟩, hJ⟩ : ∃ t, takeS S x.sec = t := ⟨_, rfl⟩
  have JP := hide (fun (y : World) (h : (AsLs g gr S).p y) => take_any (i := x.sec) h)
  have RP := hide (fun (y : World) (h : (AsRf A B vs S).p y) => rtake_any (c := c) (d := d) (i := x.sec) h hok)
  rw [hJ] at JP RP ⊢
  dsimp only at JP RP ⊢
  clear hJ hok
  rcases hm8 with rfl | rfl
  · go_enter Try.func18, Try.ntmps18
    go_upto_region 1 with (have zz := tok1; clear zz tok1; refine wpList_alS H2 rfl 45 rfl [.slice none 0 0, .slice none 0 0] (by kernel_rfl) ?_; intro w1 hz1 K1; clear hz1 H2)
    rw [show (World.alloc (World.alloc w (.cells #[.slice A S.length c, .slice B S.length d] 45)) (.cells #[.int .u8 x.what, .int .i64 x.sec, .int .u32 x.own] 31)).heap.size = w.heap.size + 1 + 1 by simp] at K1
    obtain ⟨g4, G4⟩ : ∃ g, w.heap.size = g := ⟨_, rfl⟩
    rw [G4] at K1 hgr ⊢
    have hG4 := hide G4
    clear G4
    obtain ⟨x0, x1, x2, hg5⟩ := cells3 (K1.blk (g := g4 + 1) (e := 31) (cs := [.int .u8 x.what, .int .i64 x.sec, .int .u32 x.own]) (List.Mem.tail _ (List.Mem.head _)))
    obtain ⟨b0, b1, hg4⟩ := cells2 (K1.blk (g := g4) (e := 45) (cs := [.slice A S.length c, .slice B S.length d]) (List.Mem.tail _ (List.Mem.tail _ (List.Mem.head _))))
    have JJ := hide (JP.out _ (K1.get (A := AsLs g gr S) (List.Mem.tail _ (List.Mem.tail _ (List.Mem.tail _ (List.Mem.head _))))))
    have KK := hide K1
    clear K1
    go_wp2_with fail
    (with_reducible refine JJ.out.mono ?_)
    rintro e w2 ⟨rfl, hp2, hu2⟩
    have K2 := sep_ls [_, _, _] KK.out hp2 hu2
    dsimp only [List.nil_append, List.cons_append] at K2
    clear KK hp2 hu2 JJ x0 x1 x2 hg5 b0 b1 hg4
    obtain ⟨x0, x1, x2, hg5⟩ := cells3 (K2.blk (g := g4 + 1) (e := 31) (cs := [.int .u8 x.what, .int .i64 x.sec, .int .u32 x.own]) (List.Mem.tail _ (List.Mem.head _)))
    obtain ⟨b0, b1, hg4⟩ := cells2 (K2.blk (g := g4) (e := 45) (cs := [.slice A S.length c, .slice B S.length d]) (List.Mem.tail _ (List.Mem.tail _ (List.Mem.head _))))
    have KK := hide K2
    clear K2
    go_wp2_with fail
    (with_reducible refine (RP.out _ (KK.out.get (A := AsRf A B vs S) (List.Mem.tail _ (List.Mem.tail _ (List.Mem.tail _ (List.Mem.tail _ (List.Mem.head _))))))).mono ?_)
    rintro e w4 ⟨v4, rfl, hRF⟩
    obtain ⟨B', vs', d', rfl, K4⟩ := sep_rf_to [_, _, _, _] KK.out hRF
    dsimp only [List.nil_append, List.cons_append] at K4
    clear KK hRF x0 x1 x2 hg5 b0 b1 hg4
    have KK := hide K4
    clear K4
    have tok1 : True := trivial
    have tok2 : True := trivial
    have tok3 : True := trivial
    have tok4 : True := trivial
    go_wp2_with (first
      | (have zz := tok1; clear zz tok1; refine wpList_alS KK.out rfl 45 rfl [.slice none 0 0, .slice none 0 0] (by kernel_rfl) ?_; intro w5 hz5 K5; clear hz5)
      | (have zz := tok2; clear zz tok2; refine wpList_stS [] K5 rfl 45 (.tmp 25) (.tmp 155) rfl rfl (cs := [.slice A S'.length c, .slice B' S'.length d']) rfl (by kernel_rfl) rfl (refs_one _ _ rfl rfl) ?_; intro w6 K6; dsimp only [List.nil_append] at K6; clear K5)
      | (have zz := tok3; clear zz tok3; refine wpList_ldS K6 (List.Mem.head _) rfl 45 (.tmp 25) rfl rfl _ Try.underlying45 rfl (by kernel_rfl) ?_)
      | (have zz := tok4; clear zz tok4; refine wpList_stS [_] K6 rfl 45 (.tmp 6) (.tmp 158) rfl rfl (cs := [.slice A S'.length c, .slice B' S'.length d']) rfl (by kernel_rfl) rfl (refs_one _ _ rfl rfl) ?_; intro w7 K7; dsimp only [List.nil_append, List.cons_append] at K7; clear K6))
    refine bodyPost_ret (v := .tuple #[rv A B' S'.length c d', .bool true]) (results_row_tmp rfl _ _ (g4 + 1 + 1) 45 #[.slice A S'.length c, .slice B' S'.length d'] (0, 0) _ rfl (K7.blk (g := g4 + 1 + 1) (e := 45) (List.Mem.tail _ (List.Mem.head _))) Try.underlying45 rfl (by kernel_rfl) rfl) rfl ⟨_, _, _, rfl, K7.tail.tail.tail.tail⟩
  · go_enter Try.func18, Try.ntmps18
    go_upto_region 1 with (have zz := tok1; clear zz tok1; refine wpList_alS H2 rfl 45 rfl [.slice none 0 0, .slice none 0 0] (by kernel_rfl) ?_; intro w1 hz1 K1; clear hz1 H2)
    rw [show (World.alloc (World.alloc w (.cells #[.slice A S.length c, .slice B S.length d] 45)) (.cells #[.int .u8 x.what, .int .i64 x.sec, .int .u32 x.own] 31)).heap.size = w.heap.size + 1 + 1 by simp] at K1
    obtain ⟨g4, G4⟩ : ∃ g, w.heap.size = g := ⟨_, rfl⟩
    rw [G4] at K1 hgr ⊢
    have hG4 := hide G4
    clear G4
    obtain ⟨x0, x1, x2, hg5⟩ := cells3 (K1.blk (g := g4 + 1) (e := 31) (cs := [.int .u8 x.what, .int .i64 x.sec, .int .u32 x.own]) (List.Mem.tail _ (List.Mem.head _)))
    obtain ⟨b0, b1, hg4⟩ := cells2 (K1.blk (g := g4) (e := 45) (cs := [.slice A S.length c, .slice B S.length d]) (List.Mem.tail _ (List.Mem.tail _ (List.Mem.head _))))
    have JJ := hide (JP.out _ (K1.get (A := AsLs g gr S) (List.Mem.tail _ (List.Mem.tail _ (List.Mem.tail _ (List.Mem.head _))))))
    have KK := hide K1
    clear K1
    go_wp2_with fail
    (with_reducible refine JJ.out.mono ?_)
    rintro e w2 ⟨rfl, hp2, hu2⟩
    have K2 := sep_ls [_, _, _] KK.out hp2 hu2
    dsimp only [List.nil_append, List.cons_append] at K2
    clear KK hp2 hu2 JJ x0 x1 x2 hg5 b0 b1 hg4
    obtain ⟨x0, x1, x2, hg5⟩ := cells3 (K2.blk (g := g4 + 1) (e := 31) (cs := [.int .u8 x.what, .int .i64 x.sec, .int .u32 x.own]) (List.Mem.tail _ (List.Mem.head _)))
    obtain ⟨b0, b1, hg4⟩ := cells2 (K2.blk (g := g4) (e := 45) (cs := [.slice A S.length c, .slice B S.length d]) (List.Mem.tail _ (List.Mem.tail _ (List.Mem.head _))))
    have KK := hide K2
    clear K2
    go_wp2_with fail
    (with_reducible refine (RP.out _ (KK.out.get (A := AsRf A B vs S) (List.Mem.tail _ (List.Mem.tail _ (List.Mem.tail _ (List.Mem.tail _ (List.Mem.head _))))))).mono ?_)
    rintro e w4 ⟨v4, rfl, hRF⟩
    obtain ⟨B', vs', d', rfl, K4⟩ := sep_rf_to [_, _, _, _] KK.out hRF
    dsimp only [List.nil_append, List.cons_append] at K4
    clear KK hRF x0 x1 x2 hg5 b0 b1 hg4
    have KK := hide K4
    clear K4
    have tok1 : True := trivial
    have tok2 : True := trivial
    have tok3 : True := trivial
    have tok4 : True := trivial
    go_wp2_with (first
      | (have zz := tok1; clear zz tok1; refine wpList_alS KK.out rfl 45 rfl [.slice none 0 0, .slice none 0 0] (by kernel_rfl) ?_; intro w5 hz5 K5; clear hz5)
      | (have zz := tok2; clear zz tok2; refine wpList_stS [] K5 rfl 45 (.tmp 25) (.tmp 155) rfl rfl (cs := [.slice A S'.length c, .slice B' S'.length d']) rfl (by kernel_rfl) rfl (refs_one _ _ rfl rfl) ?_; intro w6 K6; dsimp only [List.nil_append] at K6; clear K5)
      | (have zz := tok3; clear zz tok3; refine wpList_ldS K6 (List.Mem.head _) rfl 45 (.tmp 25) rfl rfl _ Try.underlying45 rfl (by kernel_rfl) ?_)
      | (have zz := tok4; clear zz tok4; refine wpList_stS [_] K6 rfl 45 (.tmp 6) (.tmp 158) rfl rfl (cs := [.slice A S'.length c, .slice B' S'.length d']) rfl (by kernel_rfl) rfl (refs_one _ _ rfl rfl) ?_; intro w7 K7; dsimp only [List.nil_append, List.cons_append] at K7; clear K6))
    refine bodyPost_ret (v := .tuple #[rv A B' S'.length c d', .bool true]) (results_row_tmp rfl _ _ (g4 + 1 + 1) 45 #[.slice A S'.length c, .slice B' S'.length d'] (0, 0) _ rfl (K7.blk (g := g4 + 1 + 1) (e := 45) (List.Mem.tail _ (List.Mem.head _))) Try.underlying45 rfl (by kernel_rfl) rfl) rfl ⟨_, _, _, rfl, K7.tail.tail.tail.tail⟩
set_option maxRecDepth 100000 in
set_option maxHeartbeats 4000000 in
theorem one_place {g gr : Nat} {A B : Option Addr} {vs : List Value} {S : St} {c d : Nat} {w : World} (x : Cl) (hx : x.ok) (HS : Sep (GG g gr A B vs S) w w [AsLs g gr S, AsRf A B vs S]) (m : Int) (hm : x.what.tmod 8 = m) (hm8 : m = 3) : Calls Try.prog 18 #[pt g, rv A B S.length c d, .agg #[.int .u8 x.what, .int .i64 x.sec, .int .u32 x.own]] w (OneQ g gr A B vs S S c w) := by
  obtain ⟨⟨hw0, hw1⟩, ⟨hs0, hs1⟩, ho0, ho1⟩ := hx
  have hgr : gr < w.heap.size := (AsLs g gr S).lt (HS.get (A := AsLs g gr S) (List.Mem.head _)) gr (.inr rfl)
  have hok := ls_ok (HS.get (A := AsLs g gr S) (List.Mem.head _))
  have H1 : Sep (GG g gr A B vs S) w (World.alloc w (.cells #[.slice A S.length c, .slice B S.length d] 45)) (As.blk w.heap.size 45 [.slice A S.length c, .slice B S.length d] :: [AsLs g gr S, AsRf A B vs S]) := Sep.add HS 45 [.slice A S.length c, .slice B S.length d]
  have H2 : Sep (GG g gr A B vs S) w (World.alloc (World.alloc w (.cells #[.slice A S.length c, .slice B S.length d] 45)) (.cells #[.int .u8 x.what, .int .i64 x.sec, .int .u32 x.own] 31)) (As.blk (World.alloc w (.cells #[.slice A S.length c, .slice B S.length d] 45)).heap.size 31 [.int .u8 x.what, .int .i64 x.sec, .int .u32 x.own] :: As.blk w.heap.size 45 [.slice A S.length c, .slice B S.length d] :: [AsLs g gr S, AsRf A B vs S]) := Sep.add H1 31 [.int .u8 x.what, .int .i64 x.sec, .int .u32 x.own]
  rw [show (World.alloc w (.cells #[.slice A S.length c, .slice B S.length d] 45)).heap.size = w.heap.size + 1 by simp] at H2
  have tok1 : True := trivial
  clear HS H1
  obtain ⟨⟨a, ee⟩, hJ⟩ : ∃ t, placeS S x.sec x.own = t := ⟨_, rfl⟩
  have JP := hide (fun (y : World) (h : (AsLs g gr S).p y) => place_any (i := x.sec) (o := x.own) h)
  have RP := hide (fun (y : World) (h : (AsRf A B vs S).p y) => rplaceL_any (c := c) (d := d) (i := x.sec) (o := x.own) h hok)
  rw [hJ] at JP RP
  dsimp only at JP RP
  clear hJ hok
  subst hm8
  go_enter Try.func18, Try.ntmps18
  go_upto_region 1 with (have zz := tok1; clear zz tok1; refine wpList_alS H2 rfl 45 rfl [.slice none 0 0, .slice none 0 0] (by kernel_rfl) ?_; intro w1 hz1 K1; clear hz1 H2)
  rw [show (World.alloc (World.alloc w (.cells #[.slice A S.length c, .slice B S.length d] 45)) (.cells #[.int .u8 x.what, .int .i64 x.sec, .int .u32 x.own] 31)).heap.size = w.heap.size + 1 + 1 by simp] at K1
  obtain ⟨g4, G4⟩ : ∃ g, w.heap.size = g := ⟨_, rfl⟩
  rw [G4] at K1 hgr ⊢
  have hG4 := hide G4
  clear G4
  obtain ⟨x0, x1, x2, hg5⟩ := cells3 (K1.blk (g := g4 + 1) (e := 31) (cs := [.int .u8 x.what, .int .i64 x.sec, .int .u32 x.own]) (List.Mem.tail _ (List.Mem.head _)))
  obtain ⟨b0, b1, hg4⟩ := cells2 (K1.blk (g := g4) (e := 45) (cs := [.slice A S.length c, .slice B S.length d]) (List.Mem.tail _ (List.Mem.tail _ (List.Mem.head _))))
  have JJ := hide (JP.out _ (K1.get (A := AsLs g gr S) (List.Mem.tail _ (List.Mem.tail _ (List.Mem.tail _ (List.Mem.head _))))))
  have KK := hide K1
  clear K1
  go_wp2_with fail
  (with_reducible refine JJ.out.mono ?_)
  rintro e w2 ⟨rfl, hx2⟩
  have K2 := KK.out.ext hx2
  clear hx2
  clear KK JJ x0 x1 x2 hg5 b0 b1 hg4
  obtain ⟨x0, x1, x2, hg5⟩ := cells3 (K2.blk (g := g4 + 1) (e := 31) (cs := [.int .u8 x.what, .int .i64 x.sec, .int .u32 x.own]) (List.Mem.tail _ (List.Mem.head _)))
  obtain ⟨b0, b1, hg4⟩ := cells2 (K2.blk (g := g4) (e := 45) (cs := [.slice A S.length c, .slice B S.length d]) (List.Mem.tail _ (List.Mem.tail _ (List.Mem.head _))))
  have KK := hide K2
  clear K2
  go_wp2_with fail
  (with_reducible refine (RP.out _ (KK.out.get (A := AsRf A B vs S) (List.Mem.tail _ (List.Mem.tail _ (List.Mem.tail _ (List.Mem.tail _ (List.Mem.head _))))))).mono ?_)
  rintro e w4 ⟨rfl, hx4⟩
  have K4 := KK.out.ext hx4
  clear KK hx4 x0 x1 x2 hg5 b0 b1 hg4
  obtain ⟨x0, x1, x2, hg5⟩ := cells3 (K4.blk (g := g4 + 1) (e := 31) (cs := [.int .u8 x.what, .int .i64 x.sec, .int .u32 x.own]) (List.Mem.tail _ (List.Mem.head _)))
  obtain ⟨b0, b1, hg4⟩ := cells2 (K4.blk (g := g4) (e := 45) (cs := [.slice A S.length c, .slice B S.length d]) (List.Mem.tail _ (List.Mem.tail _ (List.Mem.head _))))
  have KK := hide K4
  clear K4
  have tok4 : True := trivial
  go_wp2_with (have zz := tok4; clear zz tok4; refine wpList_stS [] KK.out rfl 45 (.tmp 6) (.tmp 106) rfl rfl (cs := [.slice A S.length c, .slice B S.length d]) rfl (by kernel_rfl) rfl (refs_one _ _ rfl rfl) ?_; intro w7 K7; dsimp only [List.nil_append] at K7)
  refine bodyPost_ret (v := .tuple #[rv A B S.length c d, .bool true]) (results_row_tmp rfl _ _ (g4 + 1 + 1) 45 #[.slice A S.length c, .slice B S.length d] (0, 0) _ rfl (K7.blk (g := g4 + 1 + 1) (e := 45) (List.Mem.head _)) Try.underlying45 rfl (by kernel_rfl) rfl) rfl ⟨_, _, _, rfl, K7.tail.tail.tail⟩
set_option maxRecDepth 100000 in
set_option maxHeartbeats 4000000 in
theorem one_first {g gr : Nat} {A B : Option Addr} {vs : List Value} {S : St} {c d : Nat} {w : World} (x : Cl) (hx : x.ok) (HS : Sep (GG g gr A B vs S) w w [AsLs g gr S, AsRf A B vs S]) (m : Int) (hm : x.what.tmod 8 = m) (hm8 : m = 4) : Calls Try.prog 18 #[pt g, rv A B S.length c d, .agg #[.int .u8 x.what, .int .i64 x.sec, .int .u32 x.own]] w (OneQ g gr A B vs S S c w) := by
  obtain ⟨⟨hw0, hw1⟩, ⟨hs0, hs1⟩, ho0, ho1⟩ := hx
  have hgr : gr < w.heap.size := (AsLs g gr S).lt (HS.get (A := AsLs g gr S) (List.Mem.head _)) gr (.inr rfl)
  have hok := ls_ok (HS.get (A := AsLs g gr S) (List.Mem.head _))
  have H1 : Sep (GG g gr A B vs S) w (World.alloc w (.cells #[.slice A S.length c, .slice B S.length d] 45)) (As.blk w.heap.size 45 [.slice A S.length c, .slice B S.length d] :: [AsLs g gr S, AsRf A B vs S]) := Sep.add HS 45 [.slice A S.length c, .slice B S.length d]
  have H2 : Sep (GG g gr A B vs S) w (World.alloc (World.alloc w (.cells #[.slice A S.length c, .slice B S.length d] 45)) (.cells #[.int .u8 x.what, .int .i64 x.sec, .int .u32 x.own] 31)) (As.blk (World.alloc w (.cells #[.slice A S.length c, .slice B S.length d] 45)).heap.size 31 [.int .u8 x.what, .int .i64 x.sec, .int .u32 x.own] :: As.blk w.heap.size 45 [.slice A S.length c, .slice B S.length d] :: [AsLs g gr S, AsRf A B vs S]) := Sep.add H1 31 [.int .u8 x.what, .int .i64 x.sec, .int .u32 x.own]
  rw [show (World.alloc w (.cells #[.slice A S.length c, .slice B S.length d] 45)).heap.size = w.heap.size + 1 by simp] at H2
  have tok1 : True := trivial
  clear HS H1
  obtain ⟨⟨a, ee⟩, hJ⟩ : ∃ t, firstS S x.sec = t := ⟨_, rfl⟩
  have JP := hide (fun (y : World) (h : (AsLs g gr S).p y) => first_any (i := x.sec) h)
  have RP := hide (fun (y : World) (h : (AsRf A B vs S).p y) => rfirst_any (c := c) (d := d) (i := x.sec) h)
  rw [hJ] at JP RP
  dsimp only at JP RP
  clear hJ hok
  subst hm8
  go_enter Try.func18, Try.ntmps18
  go_upto_region 1 with (have zz := tok1; clear zz tok1; refine wpList_alS H2 rfl 45 rfl [.slice none 0 0, .slice none 0 0] (by kernel_rfl) ?_; intro w1 hz1 K1; clear hz1 H2)
  rw [show (World.alloc (World.alloc w (.cells #[.slice A S.length c, .slice B S.length d] 45)) (.cells #[.int .u8 x.what, .int .i64 x.sec, .int .u32 x.own] 31)).heap.size = w.heap.size + 1 + 1 by simp] at K1
  obtain ⟨g4, G4⟩ : ∃ g, w.heap.size = g := ⟨_, rfl⟩
  rw [G4] at K1 hgr ⊢
  have hG4 := hide G4
  clear G4
  obtain ⟨x0, x1, x2, hg5⟩ := cells3 (K1.blk (g := g4 + 1) (e := 31) (cs := [.int .u8 x.what, .int .i64 x.sec, .int .u32 x.own]) (List.Mem.tail _ (List.Mem.head _)))
  obtain ⟨b0, b1, hg4⟩ := cells2 (K1.blk (g := g4) (e := 45) (cs := [.slice A S.length c, .slice B S.length d]) (List.Mem.tail _ (List.Mem.tail _ (List.Mem.head _))))
  have JJ := hide (JP.out _ (K1.get (A := AsLs g gr S) (List.Mem.tail _ (List.Mem.tail _ (List.Mem.tail _ (List.Mem.head _))))))
  have KK := hide K1
  clear K1
  go_wp2_with fail
  (with_reducible refine JJ.out.mono ?_)
  rintro e w2 ⟨rfl, hx2⟩
  have K2 := KK.out.ext hx2
  clear hx2
  clear KK JJ x0 x1 x2 hg5 b0 b1 hg4
  obtain ⟨x0, x1, x2, hg5⟩ := cells3 (K2.blk (g := g4 + 1) (e := 31) (cs := [.int .u8 x.what, .int .i64 x.sec, .int .u32 x.own]) (List.Mem.tail _ (List.Mem.head _)))
  obtain ⟨b0, b1, hg4⟩ := cells2 (K2.blk (g := g4) (e := 45) (cs := [.slice A S.length c, .slice B S.length d]) (List.Mem.tail _ (List.Mem.tail _ (List.Mem.head _))))
  have KK := hide K2
  clear K2
  go_wp2_with fail
  (with_reducible refine (RP.out _ (KK.out.get (A := AsRf A B vs S) (List.Mem.tail _ (List.Mem.tail _ (List.Mem.tail _ (List.Mem.tail _ (List.Mem.head _))))))).mono ?_)
  rintro e w4 ⟨rfl, hx4⟩
  have K4 := KK.out.ext hx4
  clear KK hx4 x0 x1 x2 hg5 b0 b1 hg4
  obtain ⟨x0, x1, x2, hg5⟩ := cells3 (K4.blk (g := g4 + 1) (e := 31) (cs := [.int .u8 x.what, .int .i64 x.sec, .int .u32 x.own]) (List.Mem.tail _ (List.Mem.head _)))
  obtain ⟨b0, b1, hg4⟩ := cells2 (K4.blk (g := g4) (e := 45) (cs := [.slice A S.length c, .slice B S.length d]) (List.Mem.tail _ (List.Mem.tail _ (List.Mem.head _))))
  have KK := hide K4
  clear K4
  have tok4 : True := trivial
  go_wp2_with (have zz := tok4; clear zz tok4; refine wpList_stS [] KK.out rfl 45 (.tmp 6) (.tmp 131) rfl rfl (cs := [.slice A S.length c, .slice B S.length d]) rfl (by kernel_rfl) rfl (refs_one _ _ rfl rfl) ?_; intro w7 K7; dsimp only [List.nil_append] at K7)
  refine bodyPost_ret (v := .tuple #[rv A B S.length c d, .bool true]) (results_row_tmp rfl _ _ (g4 + 1 + 1) 45 #[.slice A S.length c, .slice B S.length d] (0, 0) _ rfl (K7.blk (g := g4 + 1 + 1) (e := 45) (List.Mem.head _)) Try.underlying45 rfl (by kernel_rfl) rfl) rfl ⟨_, _, _, rfl, K7.tail.tail.tail⟩
set_option maxRecDepth 100000 in
set_option maxHeartbeats 4000000 in
theorem one_len {g gr : Nat} {A B : Option Addr} {vs : List Value} {S : St} {c d : Nat} {w : World} (x : Cl) (hx : x.ok) (HS : Sep (GG g gr A B vs S) w w [AsLs g gr S, AsRf A B vs S]) (m : Int) (hm : x.what.tmod 8 = m) (hm8 : m = 7) : Calls Try.prog 18 #[pt g, rv A B S.length c d, .agg #[.int .u8 x.what, .int .i64 x.sec, .int .u32 x.own]] w (OneQ g gr A B vs S S c w) := by
  obtain ⟨⟨hw0, hw1⟩, ⟨hs0, hs1⟩, ho0, ho1⟩ := hx
  have hgr : gr < w.heap.size := (AsLs g gr S).lt (HS.get (A := AsLs g gr S) (List.Mem.head _)) gr (.inr rfl)
  have hok := ls_ok (HS.get (A := AsLs g gr S) (List.Mem.head _))
  have H1 : Sep (GG g gr A B vs S) w (World.alloc w (.cells #[.slice A S.length c, .slice B S.length d] 45)) (As.blk w.heap.size 45 [.slice A S.length c, .slice B S.length d] :: [AsLs g gr S, AsRf A B vs S]) := Sep.add HS 45 [.slice A S.length c, .slice B S.length d]
  have H2 : Sep (GG g gr A B vs S) w (World.alloc (World.alloc w (.cells #[.slice A S.length c, .slice B S.length d] 45)) (.cells #[.int .u8 x.what, .int .i64 x.sec, .int .u32 x.own] 31)) (As.blk (World.alloc w (.cells #[.slice A S.length c, .slice B S.length d] 45)).heap.size 31 [.int .u8 x.what, .int .i64 x.sec, .int .u32 x.own] :: As.blk w.heap.size 45 [.slice A S.length c, .slice B S.length d] :: [AsLs g gr S, AsRf A B vs S]) := Sep.add H1 31 [.int .u8 x.what, .int .i64 x.sec, .int .u32 x.own]
  rw [show (World.alloc w (.cells #[.slice A S.length c, .slice B S.length d] 45)).heap.size = w.heap.size + 1 by simp] at H2
  have tok1 : True := trivial
  clear HS H1
  obtain ⟨⟨a, ee⟩, hJ⟩ : ∃ t, lenS S x.sec = t := ⟨_, rfl⟩
  have JP := hide (fun (y : World) (h : (AsLs g gr S).p y) => len_any (i := x.sec) h)
  have RP := hide (fun (y : World) (h : (AsRf A B vs S).p y) => rlen_any (c := c) (d := d) (i := x.sec) h)
  rw [hJ] at JP RP
  dsimp only at JP RP
  clear hJ hok
  subst hm8
  go_enter Try.func18, Try.ntmps18
  go_upto_region 1 with (have zz := tok1; clear zz tok1; refine wpList_alS H2 rfl 45 rfl [.slice none 0 0, .slice none 0 0] (by kernel_rfl) ?_; intro w1 hz1 K1; clear hz1 H2)
  rw [show (World.alloc (World.alloc w (.cells #[.slice A S.length c, .slice B S.length d] 45)) (.cells #[.int .u8 x.what, .int .i64 x.sec, .int .u32 x.own] 31)).heap.size = w.heap.size + 1 + 1 by simp] at K1
  obtain ⟨g4, G4⟩ : ∃ g, w.heap.size = g := ⟨_, rfl⟩
  rw [G4] at K1 hgr ⊢
  have hG4 := hide G4
  clear G4
  obtain ⟨x0, x1, x2, hg5⟩ := cells3 (K1.blk (g := g4 + 1) (e := 31) (cs := [.int .u8 x.what, .int .i64 x.sec, .int .u32 x.own]) (List.Mem.tail _ (List.Mem.head _)))
  obtain ⟨b0, b1, hg4⟩ := cells2 (K1.blk (g := g4) (e := 45) (cs := [.slice A S.length c, .slice B S.length d]) (List.Mem.tail _ (List.Mem.tail _ (List.Mem.head _))))
  have JJ := hide (JP.out _ (K1.get (A := AsLs g gr S) (List.Mem.tail _ (List.Mem.tail _ (List.Mem.tail _ (List.Mem.head _))))))
  have KK := hide K1
  clear K1
  go_wp2_with fail
  (with_reducible refine JJ.out.mono ?_)
  rintro e w2 ⟨rfl, rfl⟩
  have K2 := KK.out
  clear KK JJ x0 x1 x2 hg5 b0 b1 hg4
  obtain ⟨x0, x1, x2, hg5⟩ := cells3 (K2.blk (g := g4 + 1) (e := 31) (cs := [.int .u8 x.what, .int .i64 x.sec, .int .u32 x.own]) (List.Mem.tail _ (List.Mem.head _)))
  obtain ⟨b0, b1, hg4⟩ := cells2 (K2.blk (g := g4) (e := 45) (cs := [.slice A S.length c, .slice B S.length d]) (List.Mem.tail _ (List.Mem.tail _ (List.Mem.head _))))
  have KK := hide K2
  clear K2
  go_wp2_with fail
  (with_reducible refine (RP.out _ (KK.out.get (A := AsRf A B vs S) (List.Mem.tail _ (List.Mem.tail _ (List.Mem.tail _ (List.Mem.tail _ (List.Mem.head _))))))).mono ?_)
  rintro e w4 ⟨rfl, hx4⟩
  have K4 := KK.out.ext hx4
  clear KK hx4 x0 x1 x2 hg5 b0 b1 hg4
  obtain ⟨x0, x1, x2, hg5⟩ := cells3 (K4.blk (g := g4 + 1) (e := 31) (cs := [.int .u8 x.what, .int .i64 x.sec, .int .u32 x.own]) (List.Mem.tail _ (List.Mem.head _)))
  obtain ⟨b0, b1, hg4⟩ := cells2 (K4.blk (g := g4) (e := 45) (cs := [.slice A S.length c, .slice B S.length d]) (List.Mem.tail _ (List.Mem.tail _ (List.Mem.head _))))
  have KK := hide K4
  clear K4
  have tok4 : True := trivial
  go_wp2_with (have zz := tok4; clear zz tok4; refine wpList_stS [] KK.out rfl 45 (.tmp 6) (.tmp 181) rfl rfl (cs := [.slice A S.length c, .slice B S.length d]) rfl (by kernel_rfl) rfl (refs_one _ _ rfl rfl) ?_; intro w7 K7; dsimp only [List.nil_append] at K7)
  refine bodyPost_ret (v := .tuple #[rv A B S.length c d, .bool true]) (results_row_tmp rfl _ _ (g4 + 1 + 1) 45 #[.slice A S.length c, .slice B S.length d] (0, 0) _ rfl (K7.blk (g := g4 + 1 + 1) (e := 45) (List.Mem.head _)) Try.underlying45 rfl (by kernel_rfl) rfl) rfl ⟨_, _, _, rfl, K7.tail.tail.tail⟩
set_option maxRecDepth 100000 in
set_option maxHeartbeats 4000000 in
theorem one_leave {g gr : Nat} {A B : Option Addr} {vs : List Value} {S : St} {c d : Nat} {w : World} (x : Cl) (hx : x.ok) (HS : Sep (GG g gr A B vs S) w w [AsLs g gr S, AsRf A B vs S]) (m : Int) (hm : x.what.tmod 8 = m) (hm8 : m = 2) : Calls Try.prog 18 #[pt g, rv A B S.length c d, .agg #[.int .u8 x.what, .int .i64 x.sec, .int .u32 x.own]] w (OneQ g gr A B vs S (leaveS S x.sec x.own).1 c w) := by
  obtain ⟨⟨hw0, hw1⟩, ⟨hs0, hs1⟩, ho0, ho1⟩ := hx
  have hgr : gr < w.heap.size := (AsLs g gr S).lt (HS.get (A := AsLs g gr S) (List.Mem.head _)) gr (.inr rfl)
  have hok := ls_ok (HS.get (A := AsLs g gr S) (List.Mem.head _))
  have H1 : Sep (GG g gr A B vs S) w (World.alloc w (.cells #[.slice A S.length c, .slice B S.length d] 45)) (As.blk w.heap.size 45 [.slice A S.length c, .slice B S.length d] :: [AsLs g gr S, AsRf A B vs S]) := Sep.add HS 45 [.slice A S.length c, .slice B S.length d]
  have H2 : Sep (GG g gr A B vs S) w (World.alloc (World.alloc w (.cells #[.slice A S.length c, .slice B S.length d] 45)) (.cells #[.int .u8 x.what, .int .i64 x.sec, .int .u32 x.own] 31)) (As.blk (World.alloc w (.cells #[.slice A S.length c, .slice B S.length d] 45)).heap.size 31 [.int .u8 x.what, .int .i64 x.sec, .int .u32 x.own] :: As.blk w.heap.size 45 [.slice A S.length c, .slice B S.length d] :: [AsLs g gr S, AsRf A B vs S]) := Sep.add H1 31 [.int .u8 x.what, .int .i64 x.sec, .int .u32 x.own]
  rw [show (World.alloc w (.cells #[.slice A S.length c, .slice B S.length d] 45)).heap.size = w.heap.size + 1 by simp] at H2
  have tok1 : True := trivial
  clear HS H1
  obtain ⟨⟨S', ee⟩, hJ⟩ : ∃ t, leaveS S x.sec x.own = t := ⟨_, rfl⟩
  have JP := hide (fun (y : World) (h : (AsLs g gr S).p y) => leave_any (i := x.sec) (o := x.own) h)
  have RP := hide (fun (y : World) (h : (AsRf A B vs S).p y) => rleave_any (c := c) (d := d) (i := x.sec) (o := x.own) h hok)
  rw [hJ] at JP RP ⊢
  dsimp only at JP RP ⊢
  clear hJ hok
  subst hm8
  go_enter Try.func18, Try.ntmps18
  go_upto_region 1 with (have zz := tok1; clear zz tok1; refine wpList_alS H2 rfl 45 rfl [.slice none 0 0, .slice none 0 0] (by kernel_rfl) ?_; intro w1 hz1 K1; clear hz1 H2)
  rw [show (World.alloc (World.alloc w (.cells #[.slice A S.length c, .slice B S.length d] 45)) (.cells #[.int .u8 x.what, .int .i64 x.sec, .int .u32 x.own] 31)).heap.size = w.heap.size + 1 + 1 by simp] at K1
  obtain ⟨g4, G4⟩ : ∃ g, w.heap.size = g := ⟨_, rfl⟩
  rw [G4] at K1 hgr ⊢
  have hG4 := hide G4
  clear G4
  obtain ⟨x0, x1, x2, hg5⟩ := cells3 (K1.blk (g := g4 + 1) (e := 31) (cs := [.int .u8 x.what, .int .i64 x.sec, .int .u32 x.own]) (List.Mem.tail _ (List.Mem.head _)))
  obtain ⟨b0, b1, hg4⟩ := cells2 (K1.blk (g := g4) (e := 45) (cs := [.slice A S.length c, .slice B S.length d]) (List.Mem.tail _ (List.Mem.tail _ (List.Mem.head _))))
  have KK := hide K1
  clear K1
  go_wp2_with fail
  (with_reducible refine (RP.out _ (KK.out.get (A := AsRf A B vs S) (List.Mem.tail _ (List.Mem.tail _ (List.Mem.tail _ (List.Mem.tail _ (List.Mem.head _))))))).mono ?_)
  rintro e w4 ⟨v4, rfl, hRF⟩
  obtain ⟨B', vs', d', rfl, K4⟩ := sep_rf_to [_, _, _, _] KK.out hRF
  dsimp only [List.nil_append, List.cons_append] at K4
  clear KK hRF x0 x1 x2 hg5 b0 b1 hg4
  have tok1 : True := trivial
  have tok2 : True := trivial
  go_upto_region 9 with (first
    | (have zz := tok1; clear zz tok1; refine wpList_alS K4 rfl 45 rfl [.slice none 0 0, .slice none 0 0] (by kernel_rfl) ?_; intro w5 hz5 K5; clear hz5)
    | (have zz := tok2; clear zz tok2; refine wpList_stS [] K5 rfl 45 (.tmp 13) (.tmp 75) rfl rfl (cs := [.slice A S'.length c, .slice B' S'.length d']) rfl (by kernel_rfl) rfl (refs_one _ _ rfl rfl) ?_; intro w6 K6; dsimp only [List.nil_append] at K6; clear K5))
  obtain ⟨g13, G13⟩ : ∃ g, w4.heap.size = g := ⟨_, rfl⟩
  have hg13 : g4 + 1 + 1 < g13 := by rw [← G13]; exact (K4.blk (g := g4 + 1 + 1) (e := 45) (List.Mem.head _)).lt
  rw [G13] at K6 ⊢
  clear G13 K4
  refine wp_region_wmr (RT.fr fun k => k = gr ∨ k = g4 + 1 + 1) [0, 1, 2, 3, 4, 5, 7, 6, 8, 9, 10] (by kernel_rfl) (by kernel_rfl) (by kernel_rfl) (by kernel_rfl) ?_
  have K7 := K6.drew
  clear K6
  generalize w6.drew = wd at *
  have B13 := K7.blk (g := g13) (e := 45) (cs := [.slice A S'.length c, .slice B' S'.length d']) (List.Mem.head _)
  have B5 := K7.blk (g := g4 + 1) (e := 31) (cs := [.int .u8 x.what, .int .i64 x.sec, .int .u32 x.own]) (List.Mem.tail _ (List.Mem.tail _ (List.Mem.head _)))
  have JJ := hide (JP.out _ (K7.get (A := AsLs g gr S) (List.Mem.tail _ (List.Mem.tail _ (List.Mem.tail _ (List.Mem.tail _ (List.Mem.head _)))))))
  have n13 : ¬ (g13 = gr ∨ g13 = g4 + 1 + 1) := by omega
  have n5 : ¬ (g4 + 1 = gr ∨ g4 + 1 = g4 + 1 + 1) := by omega
  refine wmr_ldR rfl rfl 45 (.tmp 13) rfl (g := g13) (off := 0) (cs := [.slice A S'.length c, .slice B' S'.length d']) (fun w' h => Fr.blk h B13 n13) (fun j v h => by rw [Nat.zero_add]; exact h) rfl _ Try.underlying45 rfl (by kernel_rfl) ?_
  iterate 2 (refine wmr_rd rfl rfl (fun K hK => ?_); go_simp; refine hK _ ?_; clear hK K)
  refine wmr_ld1 rfl rfl 3 (.tmp 79) rfl rfl (fun w' h => ((Fr.blk h B5 n5).cell 1).trans rfl) _ Try.underlying3 rfl ?_
  iterate 1 (refine wmr_rd rfl rfl (fun K hK => ?_); go_simp; refine hK _ ?_; clear hK K)
  refine wmr_ld1 rfl rfl 23 (.tmp 81) rfl rfl (fun w' h => ((Fr.blk h B5 n5).cell 2).trans rfl) _ Try.underlying23 rfl ?_
  iterate 1 (refine wmr_rd rfl rfl (fun K hK => ?_); go_simp; refine hK _ ?_; clear hK K)
  refine wmr_ext rfl rfl (fun K hK => ?_)
  go_simp
  go_at_call 12
  (with_reducible refine JJ.out.mono ?_)
  rintro e w8 ⟨rfl, hp8, hu8⟩
  refine hK _ _ ((Fr.of_upd hu8).mono fun k hk => .inl hk) ?_
  clear hK K
  have K8 := sep_ls [_, _, _, _] K7 hp8 hu8
  dsimp only [List.nil_append, List.cons_append] at K8
  clear K7 hp8 hu8 JJ B13 B5
  iterate 1 (refine wmr_rd rfl rfl (fun K hK => ?_); go_simp; refine hK _ ?_; clear hK K)
  refine wmr_ext rfl rfl (fun K hK => ?_)
  rw [if_pos (show Region.wanted _ _ = true from rfl)]
  refine wp_stS [_] K8 45 (.tmp 6) (.tmp 77) rfl (cs := [.slice A S'.length c, .slice B' S'.length d']) rfl rfl (by kernel_rfl) rfl (refs_one _ _ rfl rfl) (fun w9 K9 hu9 => hK _ _ ((Fr.of_upd hu9).mono fun k hk => .inr hk) ?_)
  dsimp only [List.nil_append, List.cons_append] at K9
  clear hK K K8 hu9
  iterate 1 (refine wmr_rd rfl rfl (fun K hK => ?_); go_simp; refine hK _ ?_; clear hK K)
  refine wmr_nil ?_
  go_wp2_with fail
  refine bodyPost_ret (v := .tuple #[rv A B' S'.length c d', .bool true]) (results_row_tmp rfl _ _ (g4 + 1 + 1) 45 #[.slice A S'.length c, .slice B' S'.length d'] (0, 0) _ rfl (K9.blk (g := g4 + 1 + 1) (e := 45) (List.Mem.tail _ (List.Mem.head _))) Try.underlying45 rfl (by kernel_rfl) rfl) rfl ⟨_, _, _, rfl, K9.tail.tail.tail.tail⟩
theorem one_any {g gr : Nat} {A B : Option Addr} {vs : List Value} {S : St} {c d : Nat} {w : World} (x : Cl) (hx : x.ok) (HS : Sep (GG g gr A B vs S) w w [AsLs g gr S, AsRf A B vs S]) : Calls Try.prog 18 #[pt g, rv A B S.length c d, .agg #[.int .u8 x.what, .int .i64 x.sec, .int .u32 x.own]] w (OneQ g gr A B vs S (oneS S x) c w) := by
  obtain ⟨m, hm, hm8⟩ := mod8 hx.w
  unfold oneS
  rw [hm]
  rcases hm8 with rfl | rfl | rfl | rfl | rfl | rfl | rfl | rfl
  · rw [if_pos (.inl rfl)]; exact one_join x hx HS _ hm (.inl rfl)
  · rw [if_pos (.inr rfl)]; exact one_join x hx HS _ hm (.inr rfl)
  · rw [if_neg (by decide), if_pos rfl]; exact one_leave x hx HS _ hm rfl
  · rw [if_neg (by decide), if_neg (by decide), if_neg (by decide)]; exact one_place x hx HS _ hm rfl
  · rw [if_neg (by decide), if_neg (by decide), if_neg (by decide)]; exact one_first x hx HS _ hm rfl
  · rw [if_neg (by decide), if_neg (by decide), if_pos (.inl rfl)]; exact one_take x hx HS _ hm (.inl rfl)
  · rw [if_neg (by decide), if_neg (by decide), if_pos (.inr rfl)]; exact one_take x hx HS _ hm (.inr rfl)
  · rw [if_neg (by decide), if_neg (by decide), if_neg (by decide)]; exact one_len x hx HS _ hm rfl
end Go.Proofs.Yteecgieigjfjiaa
