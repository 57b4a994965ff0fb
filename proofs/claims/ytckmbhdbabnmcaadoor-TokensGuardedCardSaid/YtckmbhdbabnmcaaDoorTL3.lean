/- Tokens: the law TokensGuarded walked. -/
import Derived.Test.YtckmbhdbabnmcaaDoorTL1
import Derived.Test.YtckmbhdbabnmcaaDoorTkD
namespace Go.Proofs.YtckmbhdbabnmcaaDoor
open Go.RowKit Go.Gr
set_option linter.unusedVariables false
set_option linter.unusedSimpArgs false
theorem wf_u16 {n : Int} (h : (Lit.int .u16 n).wf = true) : 0 ≤ n ∧ n < 65536 := by
  have : 0 ≤ n ∧ n ≤ 65535 := by simpa [Lit.wf, IntKind.min, IntKind.max, IntKind.signed, IntKind.bits] using h
  omega
theorem str_inj {a b : List Int} (ha : isB a) (hb : isB b) (h : strOfNums a = strOfNums b) : a = b := by
  have h2 : a.map (fun n => UInt8.ofNat n.toNat) = b.map (fun n => UInt8.ofNat n.toNat) := by
    have := congrArg ByteArray.data h
    simpa [strOfNums] using this
  have h3 := congrArg (List.map fun u : UInt8 => (u.toNat : Int)) h2
  simp only [List.map_map] at h3
  have key : ∀ l : List Int, isB l → l.map ((fun u : UInt8 => (u.toNat : Int)) ∘ fun n : Int => UInt8.ofNat n.toNat) = l := by
    intro l hl
    conv => rhs; rw [← List.map_id l]
    refine List.map_congr_left fun x hx => ?_
    have := hl x hx
    simp only [Function.comp, id]
    rw [UInt8.toNat_ofNat_of_lt' (by simp; omega)]
    omega
  rwa [key a ha, key b hb] at h3
theorem str44 {w : World} {A : Option Addr} {l : List Int} (c n : Nat) (hn : l.length = n) (h : Rd w A (byt l)) : (convert 25 9 (.slice A n c)).run Tryd.prog w = .ok (.string (strOfNums l)) w := by
  subst hn
  exact str_of c h
set_option maxRecDepth 100000 in
set_option maxHeartbeats 4000000 in
theorem guarded_a (k T T2 O : List Int) (A : Option Addr) (c : Nat) (o u p q b : Int) (N : Nat) (w : World) (hl : Laid w) (hr : Rd w A (byt k)) (hc : k.length ≤ c) (hk : keyOk k) (hu : ¬ u < 0)
    (hT : T.length = 44 ∧ isB T) (hT2 : T2.length = 44 ∧ isB T2) (hflip : ∀ (h : N / 8 < T.length), T.set (N / 8) (bits .xor .u8 (T[N / 8]) (2 ^ (N % 8) % 256)) = T2) (hb : 0 ≤ b ∧ b < 65536) (hN : b.tmod 352 = (N : Int)) (hN2 : N < 352)
    (hiss : ∀ x, Ext w x → Calls Tryd.prog 15 #[.slice A k.length c, ses o u] x fun e w' => ∃ g, e = .returned (.tuple #[.slice (some ⟨g, 0, none⟩) 44 44, .int .i64 0]) ∧ Sep No x w' [As.blk g 64 (byt T)])
    (hop : ∀ g x, Ext w x → Rd x (some ⟨g, 0, none⟩) (byt T) → Calls Tryd.prog 19 #[.slice A k.length c, .slice (some ⟨g, 0, none⟩) 44 44] x fun e w' => e = .returned (.tuple #[ses o u, .int .i64 0]) ∧ Ext x w')
    (hop2 : ∀ g x, Ext w x → Rd x (some ⟨g, 0, none⟩) (byt T2) → Calls Tryd.prog 19 #[.slice A k.length c, .slice (some ⟨g, 0, none⟩) 44 44] x fun e w' => e = .returned (.tuple #[ses 0 0, .int .i64 11]) ∧ Ext x w')
    (h39 : N = 39) :
    Calls Tryd.prog 7 #[.slice A k.length c, ses o u, .int .u16 b] w fun e w' => e = .returned (.bool true) ∧ Ext w w' := by
  have HL := hide hl
  have HR := hide hr
  have HIS := hide hiss
  have HOP := hide hop
  have HOP2 := hide hop2
  have HT := hide hT
  have HT2 := hide hT2
  have HF := hide hflip
  have dk1 : ¬ (k.length : Int) < 1 := by have := hk.1; omega
  have dk2 : ¬ (64 : Int) < (k.length : Int) := by have := hk.2; omega
  have HTL : Hid ((byt T).length = 44) := hide (by rw [byt_length, hT.1])
  obtain ⟨m, hm⟩ : ∃ m, N / 8 = m := ⟨_, rfl⟩
  obtain ⟨r, hr8⟩ : ∃ r, N % 8 = r := ⟨_, rfl⟩
  have e1 : (N : Int).tdiv 8 = (m : Int) := by rw [Int.tdiv_eq_ediv_of_nonneg (by omega)]; omega
  have e2 : (N : Int).tmod 8 = (r : Int) := by rw [Int.tmod_eq_emod_of_nonneg (by omega)]; omega
  have hm44 : m < 44 := by omega
  have hr8' : r < 8 := by omega
  have hm44i : (m : Int) < 44 := by omega
  have hmT : m < T.length := by rw [hT.1]; exact hm44
  have HF2 : Hid (T.set m (bits .xor .u8 (T[m]) (2 ^ r % 256)) = T2) := hide (by subst hm hr8; exact hflip hmT)
  have H0 := (Sep.refl No w).newB ((Ext.refl w).alloc (.cells #[.int .u32 o, .int .i64 u] 24)) (Blk.new w 24 [.int .u32 o, .int .i64 u]) (Nat.le_refl _)
  obtain ⟨x0, HX⟩ : ∃ x, Hid (T[m] = x) := ⟨_, hide rfl⟩
  obtain ⟨y, HY⟩ : ∃ y, Hid (bits .xor .u8 x0 (2 ^ r % 256) = y) := ⟨_, hide rfl⟩
  rw [HX.out, HY.out] at HF2
  have hcT : (byt T)[m]? = some (.int .u8 x0) := by rw [byt, List.getElem?_map, List.getElem?_eq_getElem hmT, Option.map_some, HX.out]
  have HS2 : Hid ((byt T).set m (.int .u8 y) = byt T2) := hide (by rw [byt_set, HF2.out])
  have H39 := hide (show (N : Int) = 39 by omega)
  clear hl hr hiss hop hop2 hT hT2 hflip hk HF2 hm hr8 HX HF h39
  have tok1 : True := trivial
  have tok2 : True := trivial
  go_enter Tryd.func7, Tryd.ntmps7
  obtain ⟨c0, c1, hg0⟩ := cells2 (H0.blk (g := w.heap.size) (e := 24) (cs := [.int .u32 o, .int .i64 u]) (List.Mem.head _))
  go_wp2_with fail
  (with_reducible refine (HIS.out _ H0.toExt).mono ?_)
  rintro e w2 ⟨g7, rfl, hS⟩
  have K2 := H0.join hS
  dsimp only [List.nil_append, List.cons_append] at K2
  clear H0 hS c0 c1 hg0
  obtain ⟨g4, G4⟩ : ∃ g, w.heap.size = g := ⟨_, rfl⟩
  rw [G4] at K2 ⊢
  clear G4
  go_wp2_with fail
  (with_reducible refine (HOP.out g7 _ K2.toExt (K2.blk (g := g7) (e := 64) (cs := byt T) (List.Mem.head _)).rd).mono ?_)
  rintro e w3 ⟨rfl, hx⟩
  have K3 := K2.ext hx
  clear K2 hx HOP
  go_upto_region 5 with (first
    | (have zz := tok1; clear zz tok1; refine wpList_alS K3 rfl 24 rfl [.int .u32 0, .int .i64 0] (by kernel_rfl) ?_; intro w4 hz4 K4; clear hz4 K3)
    | (have zz := tok2; clear zz tok2; refine wpList_stS [] K4 rfl 24 (.tmp 9) (.tmp 41) rfl rfl (cs := [.int .u32 o, .int .i64 u]) rfl (by kernel_rfl) rfl (ses_one o u) ?_; intro w5 K5; dsimp only [List.nil_append] at K5; clear K4))
  obtain ⟨g9, G9⟩ : ∃ g, w3.heap.size = g := ⟨_, rfl⟩
  rw [G9] at K5 ⊢
  clear G9
  obtain ⟨c0, c1, hg0⟩ := cells2 (K5.blk (g := g9) (e := 24) (cs := [.int .u32 o, .int .i64 u]) (List.Mem.head _))
  obtain ⟨e0, e1, hg1⟩ := cells2 (K5.blk (g := g4) (e := 24) (cs := [.int .u32 o, .int .i64 u]) (List.Mem.tail _ (List.Mem.tail _ (List.Mem.head _))))
  have KK := hide K5
  clear K5
  go_wp2_with fail
  (with_reducible refine (HIS.out _ KK.out.toExt).mono ?_)
  rintro e w6 ⟨g11, rfl, hS⟩
  have K6 := KK.out.join hS
  dsimp only [List.nil_append, List.cons_append] at K6
  clear KK hS c0 c1 hg0 e0 e1 hg1 HIS
  have hcv1 := str44 44 44 HT.out.1 (K6.blk (g := g11) (e := 64) (cs := byt T) (List.Mem.head _)).rd
  have B7 := K6.blk (g := g7) (e := 64) (cs := byt T) (List.Mem.tail _ (List.Mem.tail _ (List.Mem.head _)))
  have hcv2 := str44 44 44 HT.out.1 B7.rd
  generalize strOfNums T = sT at hcv1 hcv2
  have KK := hide K6
  clear K6
  have cq := (B7.cell m).trans hcT
  have fq := B7.free m
  have hg7 := B7.lt
  clear B7 hcT
  have K8 := hide (Sep.cell (L1 := [_, _]) KK.out m (.int .u8 y))
  clear KK
  go_wp2_with fail
  rw [HY.out]
  have K9 := K8.out
  dsimp only [List.nil_append, List.cons_append] at K9
  rw [HS2.out] at K9
  clear K8 HS2 HY cq fq hg7 hcv1 hcv2
  (with_reducible refine (HOP2.out g7 _ K9.toExt (K9.blk (g := g7) (e := 64) (cs := byt T2) (List.Mem.tail _ (List.Mem.tail _ (List.Mem.head _)))).rd).mono ?_)
  rintro e wa ⟨rfl, hx⟩
  have Ka := K9.ext hx
  clear K9 hx HOP2
  have tok3 : True := trivial
  go_upto_region 13 with (have zz := tok3; clear zz tok3; refine wpList_stS [_] Ka rfl 24 (.tmp 9) (.tmp 95) rfl rfl (cs := [.int .u32 0, .int .i64 0]) rfl (by kernel_rfl) rfl (ses_one 0 0) ?_; intro wb Kb; dsimp only [List.nil_append, List.cons_append] at Kb; clear Ka)
  have h39i := H39.out
  obtain ⟨c0, c1, hg0⟩ := cells2 (Kb.blk (g := g9) (e := 24) (cs := [.int .u32 0, .int .i64 0]) (List.Mem.tail _ (List.Mem.head _)))
  have KK := hide Kb.toExt
  clear Kb
  go_wp2_with fail
  (with_reducible refine (shown_any _ (HL.out.ext KK.out)).mono ?_)
  rintro e we ⟨rfl, hxe⟩
  go_wp2_with fail
  go_ret
  exact ⟨rfl, KK.out.trans hxe⟩
set_option maxRecDepth 100000 in
set_option maxHeartbeats 4000000 in
theorem guarded_b (k T T2 O : List Int) (A : Option Addr) (c : Nat) (o u p q b : Int) (N : Nat) (w : World) (hl : Laid w) (hr : Rd w A (byt k)) (hc : k.length ≤ c) (hk : keyOk k) (hu : ¬ u < 0)
    (hT : T.length = 44 ∧ isB T) (hT2 : T2.length = 44 ∧ isB T2) (hflip : ∀ (h : N / 8 < T.length), T.set (N / 8) (bits .xor .u8 (T[N / 8]) (2 ^ (N % 8) % 256)) = T2) (hb : 0 ≤ b ∧ b < 65536) (hN : b.tmod 352 = (N : Int)) (hN2 : N < 352)
    (hiss : ∀ x, Ext w x → Calls Tryd.prog 15 #[.slice A k.length c, ses o u] x fun e w' => ∃ g, e = .returned (.tuple #[.slice (some ⟨g, 0, none⟩) 44 44, .int .i64 0]) ∧ Sep No x w' [As.blk g 64 (byt T)])
    (hop : ∀ g x, Ext w x → Rd x (some ⟨g, 0, none⟩) (byt T) → Calls Tryd.prog 19 #[.slice A k.length c, .slice (some ⟨g, 0, none⟩) 44 44] x fun e w' => e = .returned (.tuple #[ses o u, .int .i64 0]) ∧ Ext x w')
    (hop2 : ∀ g x, Ext w x → Rd x (some ⟨g, 0, none⟩) (byt T2) → Calls Tryd.prog 19 #[.slice A k.length c, .slice (some ⟨g, 0, none⟩) 44 44] x fun e w' => e = .returned (.tuple #[ses p q, .int .i64 0]) ∧ Ext x w')
    (hrdc : ∀ g x, Rd x (some ⟨g, 0, none⟩) (byt (T2.take 12)) → Calls Tryd.prog 14 #[.slice (some ⟨g, 0, none⟩) 12 44] x fun e w' => e = .returned (.tuple #[ses p q, .int .i64 0]) ∧ Ext x w')
    (hriss : ∀ x, Ext w x → Calls Tryd.prog 16 #[.slice A k.length c, ses p q] x (RetO x O 0)) (hO : isB O)
    (h39 : N ≠ 39) (h96 : N < 96) (hOT : O = T2) :
    Calls Tryd.prog 7 #[.slice A k.length c, ses o u, .int .u16 b] w fun e w' => e = .returned (.bool true) ∧ Ext w w' := by
  have HL := hide hl
  have HR := hide hr
  have HIS := hide hiss
  have HOP := hide hop
  have HOP2 := hide hop2
  have HT := hide hT
  have HT2 := hide hT2
  have HF := hide hflip
  have dk1 : ¬ (k.length : Int) < 1 := by have := hk.1; omega
  have dk2 : ¬ (64 : Int) < (k.length : Int) := by have := hk.2; omega
  have HTL : Hid ((byt T).length = 44) := hide (by rw [byt_length, hT.1])
  obtain ⟨m, hm⟩ : ∃ m, N / 8 = m := ⟨_, rfl⟩
  obtain ⟨r, hr8⟩ : ∃ r, N % 8 = r := ⟨_, rfl⟩
  have e1 : (N : Int).tdiv 8 = (m : Int) := by rw [Int.tdiv_eq_ediv_of_nonneg (by omega)]; omega
  have e2 : (N : Int).tmod 8 = (r : Int) := by rw [Int.tmod_eq_emod_of_nonneg (by omega)]; omega
  have hm44 : m < 44 := by omega
  have hr8' : r < 8 := by omega
  have hm44i : (m : Int) < 44 := by omega
  have hmT : m < T.length := by rw [hT.1]; exact hm44
  have HF2 : Hid (T.set m (bits .xor .u8 (T[m]) (2 ^ r % 256)) = T2) := hide (by subst hm hr8; exact hflip hmT)
  have H0 := (Sep.refl No w).newB ((Ext.refl w).alloc (.cells #[.int .u32 o, .int .i64 u] 24)) (Blk.new w 24 [.int .u32 o, .int .i64 u]) (Nat.le_refl _)
  obtain ⟨x0, HX⟩ : ∃ x, Hid (T[m] = x) := ⟨_, hide rfl⟩
  obtain ⟨y, HY⟩ : ∃ y, Hid (bits .xor .u8 x0 (2 ^ r % 256) = y) := ⟨_, hide rfl⟩
  rw [HX.out, HY.out] at HF2
  have hcT : (byt T)[m]? = some (.int .u8 x0) := by rw [byt, List.getElem?_map, List.getElem?_eq_getElem hmT, Option.map_some, HX.out]
  have HS2 : Hid ((byt T).set m (.int .u8 y) = byt T2) := hide (by rw [byt_set, HF2.out])
  have HRDC := hide hrdc
  have HRIS := hide hriss
  have hne39 : ¬ (N : Int) = 39 := by omega
  have HTT : Hid (∀ (x : World) (g : Nat), Rd x (some ⟨g, 0, none⟩) (byt T2) → Rd x (some ⟨g, 0, none⟩) (byt (T2.take 12))) := hide (fun x g h => rd_take h 12)
  have h96i : (N : Int) < 96 := by omega
  clear hl hr hiss hop hop2 hT hT2 hflip hk HF2 hm hr8 HX HF hrdc hriss hO h96 h39
  have tok1 : True := trivial
  have tok2 : True := trivial
  go_enter Tryd.func7, Tryd.ntmps7
  obtain ⟨c0, c1, hg0⟩ := cells2 (H0.blk (g := w.heap.size) (e := 24) (cs := [.int .u32 o, .int .i64 u]) (List.Mem.head _))
  go_wp2_with fail
  (with_reducible refine (HIS.out _ H0.toExt).mono ?_)
  rintro e w2 ⟨g7, rfl, hS⟩
  have K2 := H0.join hS
  dsimp only [List.nil_append, List.cons_append] at K2
  clear H0 hS c0 c1 hg0
  obtain ⟨g4, G4⟩ : ∃ g, w.heap.size = g := ⟨_, rfl⟩
  rw [G4] at K2 ⊢
  clear G4
  go_wp2_with fail
  (with_reducible refine (HOP.out g7 _ K2.toExt (K2.blk (g := g7) (e := 64) (cs := byt T) (List.Mem.head _)).rd).mono ?_)
  rintro e w3 ⟨rfl, hx⟩
  have K3 := K2.ext hx
  clear K2 hx HOP
  go_upto_region 5 with (first
    | (have zz := tok1; clear zz tok1; refine wpList_alS K3 rfl 24 rfl [.int .u32 0, .int .i64 0] (by kernel_rfl) ?_; intro w4 hz4 K4; clear hz4 K3)
    | (have zz := tok2; clear zz tok2; refine wpList_stS [] K4 rfl 24 (.tmp 9) (.tmp 41) rfl rfl (cs := [.int .u32 o, .int .i64 u]) rfl (by kernel_rfl) rfl (ses_one o u) ?_; intro w5 K5; dsimp only [List.nil_append] at K5; clear K4))
  obtain ⟨g9, G9⟩ : ∃ g, w3.heap.size = g := ⟨_, rfl⟩
  rw [G9] at K5 ⊢
  clear G9
  obtain ⟨c0, c1, hg0⟩ := cells2 (K5.blk (g := g9) (e := 24) (cs := [.int .u32 o, .int .i64 u]) (List.Mem.head _))
  obtain ⟨e0, e1, hg1⟩ := cells2 (K5.blk (g := g4) (e := 24) (cs := [.int .u32 o, .int .i64 u]) (List.Mem.tail _ (List.Mem.tail _ (List.Mem.head _))))
  have KK := hide K5
  clear K5
  go_wp2_with fail
  (with_reducible refine (HIS.out _ KK.out.toExt).mono ?_)
  rintro e w6 ⟨g11, rfl, hS⟩
  have K6 := KK.out.join hS
  dsimp only [List.nil_append, List.cons_append] at K6
  clear KK hS c0 c1 hg0 e0 e1 hg1 HIS
  have hcv1 := str44 44 44 HT.out.1 (K6.blk (g := g11) (e := 64) (cs := byt T) (List.Mem.head _)).rd
  have B7 := K6.blk (g := g7) (e := 64) (cs := byt T) (List.Mem.tail _ (List.Mem.tail _ (List.Mem.head _)))
  have hcv2 := str44 44 44 HT.out.1 B7.rd
  generalize strOfNums T = sT at hcv1 hcv2
  have KK := hide K6
  clear K6
  have cq := (B7.cell m).trans hcT
  have fq := B7.free m
  have hg7 := B7.lt
  clear B7 hcT
  have K8 := hide (Sep.cell (L1 := [_, _]) KK.out m (.int .u8 y))
  clear KK
  go_wp2_with fail
  rw [HY.out]
  have K9 := K8.out
  dsimp only [List.nil_append, List.cons_append] at K9
  rw [HS2.out] at K9
  clear K8 HS2 HY cq fq hg7 hcv1 hcv2
  (with_reducible refine (HOP2.out g7 _ K9.toExt (K9.blk (g := g7) (e := 64) (cs := byt T2) (List.Mem.tail _ (List.Mem.tail _ (List.Mem.head _)))).rd).mono ?_)
  rintro e wa ⟨rfl, hx⟩
  have Ka := K9.ext hx
  clear K9 hx HOP2
  have tok3 : True := trivial
  go_upto_region 13 with (have zz := tok3; clear zz tok3; refine wpList_stS [_] Ka rfl 24 (.tmp 9) (.tmp 95) rfl rfl (cs := [.int .u32 p, .int .i64 q]) rfl (by kernel_rfl) rfl (ses_one p q) ?_; intro wb Kb; dsimp only [List.nil_append, List.cons_append] at Kb; clear Ka)
  have B7 := Kb.blk (g := g7) (e := 64) (cs := byt T2) (List.Mem.tail _ (List.Mem.tail _ (List.Mem.head _)))
  have hg7 := B7.lt
  have HR7 := hide (HTT.out wb g7 B7.rd)
  clear B7 HTT
  have KK := hide Kb
  clear Kb
  go_wp2_with fail
  (with_reducible refine (HRDC.out g7 _ HR7.out).mono ?_)
  rintro e wc ⟨rfl, hx⟩
  have Kc := KK.out.ext hx
  clear KK hx HRDC HR7 hg7
  have tok4 : True := trivial
  have tok5 : True := trivial
  go_upto_region 16 with (first
    | (have zz := tok4; clear zz tok4; refine wpList_alS Kc rfl 24 rfl [.int .u32 0, .int .i64 0] (by kernel_rfl) ?_; intro wd hzd Kd; clear hzd Kc)
    | (have zz := tok5; clear zz tok5; refine wpList_stS [] Kd rfl 24 (.tmp 13) (.tmp 113) rfl rfl (cs := [.int .u32 p, .int .i64 q]) rfl (by kernel_rfl) rfl (ses_one p q) ?_; intro we Ke; dsimp only [List.nil_append] at Ke; clear Kd))
  obtain ⟨g13, G13⟩ : ∃ g, wc.heap.size = g := ⟨_, rfl⟩
  rw [G13] at Ke ⊢
  clear G13
  obtain ⟨c0, c1, hg0⟩ := cells2 (Ke.blk (g := g13) (e := 24) (cs := [.int .u32 p, .int .i64 q]) (List.Mem.head _))
  have KK := hide Ke
  clear Ke
  go_wp2_with fail
  (with_reducible refine (HRIS.out _ KK.out.toExt).mono ?_)
  rintro e wf ⟨v15, rfl, hS⟩
  have Kf := KK.out.join hS
  dsimp only [List.nil_append, List.cons_append] at Kf
  clear KK hS c0 c1 hg0 HRIS
  obtain ⟨A3, c3, rfl, hr3, hc3⟩ := own_form (Kf.owns (List.Mem.head _))
  obtain ⟨c0, c1, hg0⟩ := cells2 (Kf.blk (g := g13) (e := 24) (cs := [.int .u32 p, .int .i64 q]) (List.Mem.tail _ (List.Mem.head _)))
  obtain ⟨e0, e1, hg1⟩ := cells2 (Kf.blk (g := g9) (e := 24) (cs := [.int .u32 p, .int .i64 q]) (List.Mem.tail _ (List.Mem.tail _ (List.Mem.tail _ (List.Mem.head _)))))
  have hcv1 := str_of c3 hr3
  have hcv2 := str44 44 44 HT2.out.1 (Kf.blk (g := g7) (e := 64) (cs := byt T2) (List.Mem.tail _ (List.Mem.tail _ (List.Mem.tail _ (List.Mem.tail _ (List.Mem.head _)))))).rd
  rw [show strOfNums O = strOfNums T2 by rw [hOT]] at hcv1
  clear hOT
  generalize strOfNums T2 = sT at hcv1 hcv2
  have KK := hide Kf.toExt
  clear Kf hr3
  go_wp2_with fail
  (with_reducible refine (shown_any _ (HL.out.ext KK.out)).mono ?_)
  rintro e wg ⟨rfl, hxe⟩
  go_wp2_with fail
  go_ret
  exact ⟨rfl, KK.out.trans hxe⟩
set_option maxRecDepth 100000 in
set_option maxHeartbeats 4000000 in
theorem guarded_c (k T T2 O : List Int) (A : Option Addr) (c : Nat) (o u p q b : Int) (N : Nat) (w : World) (hl : Laid w) (hr : Rd w A (byt k)) (hc : k.length ≤ c) (hk : keyOk k) (hu : ¬ u < 0)
    (hT : T.length = 44 ∧ isB T) (hT2 : T2.length = 44 ∧ isB T2) (hflip : ∀ (h : N / 8 < T.length), T.set (N / 8) (bits .xor .u8 (T[N / 8]) (2 ^ (N % 8) % 256)) = T2) (hb : 0 ≤ b ∧ b < 65536) (hN : b.tmod 352 = (N : Int)) (hN2 : N < 352)
    (hiss : ∀ x, Ext w x → Calls Tryd.prog 15 #[.slice A k.length c, ses o u] x fun e w' => ∃ g, e = .returned (.tuple #[.slice (some ⟨g, 0, none⟩) 44 44, .int .i64 0]) ∧ Sep No x w' [As.blk g 64 (byt T)])
    (hop : ∀ g x, Ext w x → Rd x (some ⟨g, 0, none⟩) (byt T) → Calls Tryd.prog 19 #[.slice A k.length c, .slice (some ⟨g, 0, none⟩) 44 44] x fun e w' => e = .returned (.tuple #[ses o u, .int .i64 0]) ∧ Ext x w')
    (hop2 : ∀ g x, Ext w x → Rd x (some ⟨g, 0, none⟩) (byt T2) → Calls Tryd.prog 19 #[.slice A k.length c, .slice (some ⟨g, 0, none⟩) 44 44] x fun e w' => e = .returned (.tuple #[ses 0 0, .int .i64 12]) ∧ Ext x w')
    (hrdc : ∀ g x, Rd x (some ⟨g, 0, none⟩) (byt (T2.take 12)) → Calls Tryd.prog 14 #[.slice (some ⟨g, 0, none⟩) 12 44] x fun e w' => e = .returned (.tuple #[ses p q, .int .i64 0]) ∧ Ext x w')
    (hriss : ∀ x, Ext w x → Calls Tryd.prog 16 #[.slice A k.length c, ses p q] x (RetO x O 0)) (hO : isB O)
    (h39 : N ≠ 39) (h96 : N < 96) (hOT : O ≠ T2) :
    Calls Tryd.prog 7 #[.slice A k.length c, ses o u, .int .u16 b] w fun e w' => e = .returned (.bool true) ∧ Ext w w' := by
  have HL := hide hl
  have HR := hide hr
  have HIS := hide hiss
  have HOP := hide hop
  have HOP2 := hide hop2
  have HT := hide hT
  have HT2 := hide hT2
  have HF := hide hflip
  have dk1 : ¬ (k.length : Int) < 1 := by have := hk.1; omega
  have dk2 : ¬ (64 : Int) < (k.length : Int) := by have := hk.2; omega
  have HTL : Hid ((byt T).length = 44) := hide (by rw [byt_length, hT.1])
  obtain ⟨m, hm⟩ : ∃ m, N / 8 = m := ⟨_, rfl⟩
  obtain ⟨r, hr8⟩ : ∃ r, N % 8 = r := ⟨_, rfl⟩
  have e1 : (N : Int).tdiv 8 = (m : Int) := by rw [Int.tdiv_eq_ediv_of_nonneg (by omega)]; omega
  have e2 : (N : Int).tmod 8 = (r : Int) := by rw [Int.tmod_eq_emod_of_nonneg (by omega)]; omega
  have hm44 : m < 44 := by omega
  have hr8' : r < 8 := by omega
  have hm44i : (m : Int) < 44 := by omega
  have hmT : m < T.length := by rw [hT.1]; exact hm44
  have HF2 : Hid (T.set m (bits .xor .u8 (T[m]) (2 ^ r % 256)) = T2) := hide (by subst hm hr8; exact hflip hmT)
  have H0 := (Sep.refl No w).newB ((Ext.refl w).alloc (.cells #[.int .u32 o, .int .i64 u] 24)) (Blk.new w 24 [.int .u32 o, .int .i64 u]) (Nat.le_refl _)
  obtain ⟨x0, HX⟩ : ∃ x, Hid (T[m] = x) := ⟨_, hide rfl⟩
  obtain ⟨y, HY⟩ : ∃ y, Hid (bits .xor .u8 x0 (2 ^ r % 256) = y) := ⟨_, hide rfl⟩
  rw [HX.out, HY.out] at HF2
  have hcT : (byt T)[m]? = some (.int .u8 x0) := by rw [byt, List.getElem?_map, List.getElem?_eq_getElem hmT, Option.map_some, HX.out]
  have HS2 : Hid ((byt T).set m (.int .u8 y) = byt T2) := hide (by rw [byt_set, HF2.out])
  have HRDC := hide hrdc
  have HRIS := hide hriss
  have hne39 : ¬ (N : Int) = 39 := by omega
  have HTT : Hid (∀ (x : World) (g : Nat), Rd x (some ⟨g, 0, none⟩) (byt T2) → Rd x (some ⟨g, 0, none⟩) (byt (T2.take 12))) := hide (fun x g h => rd_take h 12)
  have h96i : (N : Int) < 96 := by omega
  have hsne : ¬ strOfNums O = strOfNums T2 := fun e => hOT (str_inj hO hT2.2 e)
  clear hl hr hiss hop hop2 hT hT2 hflip hk HF2 hm hr8 HX HF hrdc hriss hO hOT h96 h39
  have tok1 : True := trivial
  have tok2 : True := trivial
  go_enter Tryd.func7, Tryd.ntmps7
  obtain ⟨c0, c1, hg0⟩ := cells2 (H0.blk (g := w.heap.size) (e := 24) (cs := [.int .u32 o, .int .i64 u]) (List.Mem.head _))
  go_wp2_with fail
  (with_reducible refine (HIS.out _ H0.toExt).mono ?_)
  rintro e w2 ⟨g7, rfl, hS⟩
  have K2 := H0.join hS
  dsimp only [List.nil_append, List.cons_append] at K2
  clear H0 hS c0 c1 hg0
  obtain ⟨g4, G4⟩ : ∃ g, w.heap.size = g := ⟨_, rfl⟩
  rw [G4] at K2 ⊢
  clear G4
  go_wp2_with fail
  (with_reducible refine (HOP.out g7 _ K2.toExt (K2.blk (g := g7) (e := 64) (cs := byt T) (List.Mem.head _)).rd).mono ?_)
  rintro e w3 ⟨rfl, hx⟩
  have K3 := K2.ext hx
  clear K2 hx HOP
  go_upto_region 5 with (first
    | (have zz := tok1; clear zz tok1; refine wpList_alS K3 rfl 24 rfl [.int .u32 0, .int .i64 0] (by kernel_rfl) ?_; intro w4 hz4 K4; clear hz4 K3)
    | (have zz := tok2; clear zz tok2; refine wpList_stS [] K4 rfl 24 (.tmp 9) (.tmp 41) rfl rfl (cs := [.int .u32 o, .int .i64 u]) rfl (by kernel_rfl) rfl (ses_one o u) ?_; intro w5 K5; dsimp only [List.nil_append] at K5; clear K4))
  obtain ⟨g9, G9⟩ : ∃ g, w3.heap.size = g := ⟨_, rfl⟩
  rw [G9] at K5 ⊢
  clear G9
  obtain ⟨c0, c1, hg0⟩ := cells2 (K5.blk (g := g9) (e := 24) (cs := [.int .u32 o, .int .i64 u]) (List.Mem.head _))
  obtain ⟨e0, e1, hg1⟩ := cells2 (K5.blk (g := g4) (e := 24) (cs := [.int .u32 o, .int .i64 u]) (List.Mem.tail _ (List.Mem.tail _ (List.Mem.head _))))
  have KK := hide K5
  clear K5
  go_wp2_with fail
  (with_reducible refine (HIS.out _ KK.out.toExt).mono ?_)
  rintro e w6 ⟨g11, rfl, hS⟩
  have K6 := KK.out.join hS
  dsimp only [List.nil_append, List.cons_append] at K6
  clear KK hS c0 c1 hg0 e0 e1 hg1 HIS
  have hcv1 := str44 44 44 HT.out.1 (K6.blk (g := g11) (e := 64) (cs := byt T) (List.Mem.head _)).rd
  have B7 := K6.blk (g := g7) (e := 64) (cs := byt T) (List.Mem.tail _ (List.Mem.tail _ (List.Mem.head _)))
  have hcv2 := str44 44 44 HT.out.1 B7.rd
  generalize strOfNums T = sT at hcv1 hcv2
  have KK := hide K6
  clear K6
  have cq := (B7.cell m).trans hcT
  have fq := B7.free m
  have hg7 := B7.lt
  clear B7 hcT
  have K8 := hide (Sep.cell (L1 := [_, _]) KK.out m (.int .u8 y))
  clear KK
  go_wp2_with fail
  rw [HY.out]
  have K9 := K8.out
  dsimp only [List.nil_append, List.cons_append] at K9
  rw [HS2.out] at K9
  clear K8 HS2 HY cq fq hg7 hcv1 hcv2
  (with_reducible refine (HOP2.out g7 _ K9.toExt (K9.blk (g := g7) (e := 64) (cs := byt T2) (List.Mem.tail _ (List.Mem.tail _ (List.Mem.head _)))).rd).mono ?_)
  rintro e wa ⟨rfl, hx⟩
  have Ka := K9.ext hx
  clear K9 hx HOP2
  have tok3 : True := trivial
  go_upto_region 13 with (have zz := tok3; clear zz tok3; refine wpList_stS [_] Ka rfl 24 (.tmp 9) (.tmp 95) rfl rfl (cs := [.int .u32 0, .int .i64 0]) rfl (by kernel_rfl) rfl (ses_one 0 0) ?_; intro wb Kb; dsimp only [List.nil_append, List.cons_append] at Kb; clear Ka)
  have B7 := Kb.blk (g := g7) (e := 64) (cs := byt T2) (List.Mem.tail _ (List.Mem.tail _ (List.Mem.head _)))
  have hg7 := B7.lt
  have HR7 := hide (HTT.out wb g7 B7.rd)
  clear B7 HTT
  have KK := hide Kb
  clear Kb
  go_wp2_with fail
  (with_reducible refine (HRDC.out g7 _ HR7.out).mono ?_)
  rintro e wc ⟨rfl, hx⟩
  have Kc := KK.out.ext hx
  clear KK hx HRDC HR7 hg7
  have tok4 : True := trivial
  have tok5 : True := trivial
  go_upto_region 16 with (first
    | (have zz := tok4; clear zz tok4; refine wpList_alS Kc rfl 24 rfl [.int .u32 0, .int .i64 0] (by kernel_rfl) ?_; intro wd hzd Kd; clear hzd Kc)
    | (have zz := tok5; clear zz tok5; refine wpList_stS [] Kd rfl 24 (.tmp 13) (.tmp 113) rfl rfl (cs := [.int .u32 p, .int .i64 q]) rfl (by kernel_rfl) rfl (ses_one p q) ?_; intro we Ke; dsimp only [List.nil_append] at Ke; clear Kd))
  obtain ⟨g13, G13⟩ : ∃ g, wc.heap.size = g := ⟨_, rfl⟩
  rw [G13] at Ke ⊢
  clear G13
  obtain ⟨c0, c1, hg0⟩ := cells2 (Ke.blk (g := g13) (e := 24) (cs := [.int .u32 p, .int .i64 q]) (List.Mem.head _))
  have KK := hide Ke
  clear Ke
  go_wp2_with fail
  (with_reducible refine (HRIS.out _ KK.out.toExt).mono ?_)
  rintro e wf ⟨v15, rfl, hS⟩
  have Kf := KK.out.join hS
  dsimp only [List.nil_append, List.cons_append] at Kf
  clear KK hS c0 c1 hg0 HRIS
  obtain ⟨A3, c3, rfl, hr3, hc3⟩ := own_form (Kf.owns (List.Mem.head _))
  obtain ⟨c0, c1, hg0⟩ := cells2 (Kf.blk (g := g13) (e := 24) (cs := [.int .u32 p, .int .i64 q]) (List.Mem.tail _ (List.Mem.head _)))
  obtain ⟨e0, e1, hg1⟩ := cells2 (Kf.blk (g := g9) (e := 24) (cs := [.int .u32 0, .int .i64 0]) (List.Mem.tail _ (List.Mem.tail _ (List.Mem.tail _ (List.Mem.head _)))))
  have hcv1 := str_of c3 hr3
  have hcv2 := str44 44 44 HT2.out.1 (Kf.blk (g := g7) (e := 64) (cs := byt T2) (List.Mem.tail _ (List.Mem.tail _ (List.Mem.tail _ (List.Mem.tail _ (List.Mem.head _)))))).rd
  generalize strOfNums T2 = sT at hcv1 hcv2 hsne
  generalize strOfNums O = sO at hcv1 hsne
  have hs1 : (sO.toList == sT.toList) = false := beq_eq_false_iff_ne.2 (fun e => hsne (ByteArray.ext (Array.toList_inj.1 (by rwa [ByteArray.toList_eq, ByteArray.toList_eq] at e))))
  have KK := hide Kf.toExt
  clear Kf hr3
  go_wp2_with fail
  (with_reducible refine (shown_any _ (HL.out.ext KK.out)).mono ?_)
  rintro e wg ⟨rfl, hxe⟩
  go_wp2_with fail
  go_ret
  exact ⟨rfl, KK.out.trans hxe⟩
set_option maxRecDepth 100000 in
set_option maxHeartbeats 4000000 in
theorem guarded_d (k T T2 O : List Int) (A : Option Addr) (c : Nat) (o u p q b : Int) (N : Nat) (w : World) (hl : Laid w) (hr : Rd w A (byt k)) (hc : k.length ≤ c) (hk : keyOk k) (hu : ¬ u < 0)
    (hT : T.length = 44 ∧ isB T) (hT2 : T2.length = 44 ∧ isB T2) (hflip : ∀ (h : N / 8 < T.length), T.set (N / 8) (bits .xor .u8 (T[N / 8]) (2 ^ (N % 8) % 256)) = T2) (hb : 0 ≤ b ∧ b < 65536) (hN : b.tmod 352 = (N : Int)) (hN2 : N < 352)
    (hiss : ∀ x, Ext w x → Calls Tryd.prog 15 #[.slice A k.length c, ses o u] x fun e w' => ∃ g, e = .returned (.tuple #[.slice (some ⟨g, 0, none⟩) 44 44, .int .i64 0]) ∧ Sep No x w' [As.blk g 64 (byt T)])
    (hop : ∀ g x, Ext w x → Rd x (some ⟨g, 0, none⟩) (byt T) → Calls Tryd.prog 19 #[.slice A k.length c, .slice (some ⟨g, 0, none⟩) 44 44] x fun e w' => e = .returned (.tuple #[ses o u, .int .i64 0]) ∧ Ext x w')
    (hop2 : ∀ g x, Ext w x → Rd x (some ⟨g, 0, none⟩) (byt T2) → Calls Tryd.prog 19 #[.slice A k.length c, .slice (some ⟨g, 0, none⟩) 44 44] x fun e w' => e = .returned (.tuple #[ses 0 0, .int .i64 12]) ∧ Ext x w')
    (hrdc : ∀ g x, Rd x (some ⟨g, 0, none⟩) (byt (T2.take 12)) → Calls Tryd.prog 14 #[.slice (some ⟨g, 0, none⟩) 12 44] x fun e w' => e = .returned (.tuple #[ses p q, .int .i64 0]) ∧ Ext x w')
    (hriss : ∀ x, Ext w x → Calls Tryd.prog 16 #[.slice A k.length c, ses p q] x (RetO x O 0)) (hO : isB O)
    (h39 : N ≠ 39) (h96 : ¬ N < 96) :
    Calls Tryd.prog 7 #[.slice A k.length c, ses o u, .int .u16 b] w fun e w' => e = .returned (.bool true) ∧ Ext w w' := by
  have HL := hide hl
  have HR := hide hr
  have HIS := hide hiss
  have HOP := hide hop
  have HOP2 := hide hop2
  have HT := hide hT
  have HT2 := hide hT2
  have HF := hide hflip
  have dk1 : ¬ (k.length : Int) < 1 := by have := hk.1; omega
  have dk2 : ¬ (64 : Int) < (k.length : Int) := by have := hk.2; omega
  have HTL : Hid ((byt T).length = 44) := hide (by rw [byt_length, hT.1])
  obtain ⟨m, hm⟩ : ∃ m, N / 8 = m := ⟨_, rfl⟩
  obtain ⟨r, hr8⟩ : ∃ r, N % 8 = r := ⟨_, rfl⟩
  have e1 : (N : Int).tdiv 8 = (m : Int) := by rw [Int.tdiv_eq_ediv_of_nonneg (by omega)]; omega
  have e2 : (N : Int).tmod 8 = (r : Int) := by rw [Int.tmod_eq_emod_of_nonneg (by omega)]; omega
  have hm44 : m < 44 := by omega
  have hr8' : r < 8 := by omega
  have hm44i : (m : Int) < 44 := by omega
  have hmT : m < T.length := by rw [hT.1]; exact hm44
  have HF2 : Hid (T.set m (bits .xor .u8 (T[m]) (2 ^ r % 256)) = T2) := hide (by subst hm hr8; exact hflip hmT)
  have H0 := (Sep.refl No w).newB ((Ext.refl w).alloc (.cells #[.int .u32 o, .int .i64 u] 24)) (Blk.new w 24 [.int .u32 o, .int .i64 u]) (Nat.le_refl _)
  obtain ⟨x0, HX⟩ : ∃ x, Hid (T[m] = x) := ⟨_, hide rfl⟩
  obtain ⟨y, HY⟩ : ∃ y, Hid (bits .xor .u8 x0 (2 ^ r % 256) = y) := ⟨_, hide rfl⟩
  rw [HX.out, HY.out] at HF2
  have hcT : (byt T)[m]? = some (.int .u8 x0) := by rw [byt, List.getElem?_map, List.getElem?_eq_getElem hmT, Option.map_some, HX.out]
  have HS2 : Hid ((byt T).set m (.int .u8 y) = byt T2) := hide (by rw [byt_set, HF2.out])
  have HRDC := hide hrdc
  have HRIS := hide hriss
  have hne39 : ¬ (N : Int) = 39 := by omega
  have HTT : Hid (∀ (x : World) (g : Nat), Rd x (some ⟨g, 0, none⟩) (byt T2) → Rd x (some ⟨g, 0, none⟩) (byt (T2.take 12))) := hide (fun x g h => rd_take h 12)
  have h96i : ¬ (N : Int) < 96 := by omega
  clear hl hr hiss hop hop2 hT hT2 hflip hk HF2 hm hr8 HX HF hrdc hriss hO h96 h39
  have tok1 : True := trivial
  have tok2 : True := trivial
  go_enter Tryd.func7, Tryd.ntmps7
  obtain ⟨c0, c1, hg0⟩ := cells2 (H0.blk (g := w.heap.size) (e := 24) (cs := [.int .u32 o, .int .i64 u]) (List.Mem.head _))
  go_wp2_with fail
  (with_reducible refine (HIS.out _ H0.toExt).mono ?_)
  rintro e w2 ⟨g7, rfl, hS⟩
  have K2 := H0.join hS
  dsimp only [List.nil_append, List.cons_append] at K2
  clear H0 hS c0 c1 hg0
  obtain ⟨g4, G4⟩ : ∃ g, w.heap.size = g := ⟨_, rfl⟩
  rw [G4] at K2 ⊢
  clear G4
  go_wp2_with fail
  (with_reducible refine (HOP.out g7 _ K2.toExt (K2.blk (g := g7) (e := 64) (cs := byt T) (List.Mem.head _)).rd).mono ?_)
  rintro e w3 ⟨rfl, hx⟩
  have K3 := K2.ext hx
  clear K2 hx HOP
  go_upto_region 5 with (first
    | (have zz := tok1; clear zz tok1; refine wpList_alS K3 rfl 24 rfl [.int .u32 0, .int .i64 0] (by kernel_rfl) ?_; intro w4 hz4 K4; clear hz4 K3)
    | (have zz := tok2; clear zz tok2; refine wpList_stS [] K4 rfl 24 (.tmp 9) (.tmp 41) rfl rfl (cs := [.int .u32 o, .int .i64 u]) rfl (by kernel_rfl) rfl (ses_one o u) ?_; intro w5 K5; dsimp only [List.nil_append] at K5; clear K4))
  obtain ⟨g9, G9⟩ : ∃ g, w3.heap.size = g := ⟨_, rfl⟩
  rw [G9] at K5 ⊢
  clear G9
  obtain ⟨c0, c1, hg0⟩ := cells2 (K5.blk (g := g9) (e := 24) (cs := [.int .u32 o, .int .i64 u]) (List.Mem.head _))
  obtain ⟨e0, e1, hg1⟩ := cells2 (K5.blk (g := g4) (e := 24) (cs := [.int .u32 o, .int .i64 u]) (List.Mem.tail _ (List.Mem.tail _ (List.Mem.head _))))
  have KK := hide K5
  clear K5
  go_wp2_with fail
  (with_reducible refine (HIS.out _ KK.out.toExt).mono ?_)
  rintro e w6 ⟨g11, rfl, hS⟩
  have K6 := KK.out.join hS
  dsimp only [List.nil_append, List.cons_append] at K6
  clear KK hS c0 c1 hg0 e0 e1 hg1 HIS
  have hcv1 := str44 44 44 HT.out.1 (K6.blk (g := g11) (e := 64) (cs := byt T) (List.Mem.head _)).rd
  have B7 := K6.blk (g := g7) (e := 64) (cs := byt T) (List.Mem.tail _ (List.Mem.tail _ (List.Mem.head _)))
  have hcv2 := str44 44 44 HT.out.1 B7.rd
  generalize strOfNums T = sT at hcv1 hcv2
  have KK := hide K6
  clear K6
  have cq := (B7.cell m).trans hcT
  have fq := B7.free m
  have hg7 := B7.lt
  clear B7 hcT
  have K8 := hide (Sep.cell (L1 := [_, _]) KK.out m (.int .u8 y))
  clear KK
  go_wp2_with fail
  rw [HY.out]
  have K9 := K8.out
  dsimp only [List.nil_append, List.cons_append] at K9
  rw [HS2.out] at K9
  clear K8 HS2 HY cq fq hg7 hcv1 hcv2
  (with_reducible refine (HOP2.out g7 _ K9.toExt (K9.blk (g := g7) (e := 64) (cs := byt T2) (List.Mem.tail _ (List.Mem.tail _ (List.Mem.head _)))).rd).mono ?_)
  rintro e wa ⟨rfl, hx⟩
  have Ka := K9.ext hx
  clear K9 hx HOP2
  have tok3 : True := trivial
  go_upto_region 13 with (have zz := tok3; clear zz tok3; refine wpList_stS [_] Ka rfl 24 (.tmp 9) (.tmp 95) rfl rfl (cs := [.int .u32 0, .int .i64 0]) rfl (by kernel_rfl) rfl (ses_one 0 0) ?_; intro wb Kb; dsimp only [List.nil_append, List.cons_append] at Kb; clear Ka)
  have B7 := Kb.blk (g := g7) (e := 64) (cs := byt T2) (List.Mem.tail _ (List.Mem.tail _ (List.Mem.head _)))
  have hg7 := B7.lt
  have HR7 := hide (HTT.out wb g7 B7.rd)
  clear B7 HTT
  have KK := hide Kb
  clear Kb
  go_wp2_with fail
  (with_reducible refine (HRDC.out g7 _ HR7.out).mono ?_)
  rintro e wc ⟨rfl, hx⟩
  have Kc := KK.out.ext hx
  clear KK hx HRDC HR7 hg7
  have tok4 : True := trivial
  have tok5 : True := trivial
  go_upto_region 16 with (first
    | (have zz := tok4; clear zz tok4; refine wpList_alS Kc rfl 24 rfl [.int .u32 0, .int .i64 0] (by kernel_rfl) ?_; intro wd hzd Kd; clear hzd Kc)
    | (have zz := tok5; clear zz tok5; refine wpList_stS [] Kd rfl 24 (.tmp 13) (.tmp 113) rfl rfl (cs := [.int .u32 p, .int .i64 q]) rfl (by kernel_rfl) rfl (ses_one p q) ?_; intro we Ke; dsimp only [List.nil_append] at Ke; clear Kd))
  obtain ⟨g13, G13⟩ : ∃ g, wc.heap.size = g := ⟨_, rfl⟩
  rw [G13] at Ke ⊢
  clear G13
  obtain ⟨c0, c1, hg0⟩ := cells2 (Ke.blk (g := g13) (e := 24) (cs := [.int .u32 p, .int .i64 q]) (List.Mem.head _))
  have KK := hide Ke
  clear Ke
  go_wp2_with fail
  (with_reducible refine (HRIS.out _ KK.out.toExt).mono ?_)
  rintro e wf ⟨v15, rfl, hS⟩
  have Kf := KK.out.join hS
  dsimp only [List.nil_append, List.cons_append] at Kf
  clear KK hS c0 c1 hg0 HRIS
  obtain ⟨A3, c3, rfl, hr3, hc3⟩ := own_form (Kf.owns (List.Mem.head _))
  obtain ⟨c0, c1, hg0⟩ := cells2 (Kf.blk (g := g13) (e := 24) (cs := [.int .u32 p, .int .i64 q]) (List.Mem.tail _ (List.Mem.head _)))
  obtain ⟨e0, e1, hg1⟩ := cells2 (Kf.blk (g := g9) (e := 24) (cs := [.int .u32 0, .int .i64 0]) (List.Mem.tail _ (List.Mem.tail _ (List.Mem.tail _ (List.Mem.head _)))))
  have KK := hide Kf.toExt
  clear Kf hr3
  go_wp2_with fail
  (with_reducible refine (shown_any _ (HL.out.ext KK.out)).mono ?_)
  rintro e wg ⟨rfl, hxe⟩
  go_wp2_with fail
  go_ret
  exact ⟨rfl, KK.out.trans hxe⟩
theorem guarded_law (w : World) (hl : Laid w) (v0 : Value) (h0 : LfOk Tryd.prog w (.slice 5) v0) (v1 : Value) (h1 : ∃ cs, v1 = .agg cs ∧ Lvs Tryd.prog w [.int .u32, .int .i64] cs.toList) (b : Int) (hbb : 0 ≤ b ∧ b < 65536) : Calls Tryd.prog 7 #[v0, v1, .int .u16 b] w fun e w' => e = .returned (.bool true) ∧ Ext w w' := by
  obtain ⟨A, k, c, rfl, hr, hb, hc, hm⟩ := bytes_arg h0
  obtain ⟨o, u, rfl, ho, hu⟩ := sesA h1
  clear h0 h1
  have HL := hide hl
  have H0 := (Sep.refl No w).newB ((Ext.refl w).alloc (.cells #[.int .u32 o, .int .i64 u] 24)) (Blk.new w 24 [.int .u32 o, .int .i64 u]) (Nat.le_refl _)
  have HX := hide H0.toExt
  obtain ⟨c0, c1, hg0⟩ := cells2 (H0.blk (g := w.heap.size) (e := 24) (cs := [.int .u32 o, .int .i64 u]) (List.Mem.head _))
  clear H0
  by_cases hk1 : k.length < 1
  · have d1 : (k.length : Int) < 1 := by omega
    clear hl hr hb hk1
    go_enter Tryd.func7, Tryd.ntmps7
    go_wp2_with fail
    (with_reducible refine (shown_any _ (HL.out.ext HX.out)).mono ?_)
    rintro e w1 ⟨rfl, hx⟩
    go_wp2_with fail
    go_ret
    exact ⟨rfl, HX.out.trans hx⟩
  · have d1 : ¬ (k.length : Int) < 1 := by omega
    by_cases hk2 : 64 < k.length
    · have d2 : (64 : Int) < (k.length : Int) := by omega
      clear hl hr hb hk1 hk2
      go_enter Tryd.func7, Tryd.ntmps7
      go_wp2_with fail
      (with_reducible refine (shown_any _ (HL.out.ext HX.out)).mono ?_)
      rintro e w1 ⟨rfl, hx⟩
      go_wp2_with fail
      go_ret
      exact ⟨rfl, HX.out.trans hx⟩
    · have d2 : ¬ (64 : Int) < (k.length : Int) := by omega
      by_cases hneg : u < 0
      · clear hl hr hb hk1 hk2
        go_enter Tryd.func7, Tryd.ntmps7
        go_wp2_with fail
        (with_reducible refine (shown_any _ (HL.out.ext HX.out)).mono ?_)
        rintro e w1 ⟨rfl, hx⟩
        go_wp2_with fail
        go_ret
        exact ⟨rfl, HX.out.trans hx⟩
      · clear c0 c1 hg0 HX d1 d2
        have hk : keyOk k := ⟨by omega, by omega⟩
        have hu0 : 0 ≤ u ∧ u < 9223372036854775808 := by omega
        have hrl := recB_len o u
        have hTl : (tokB k (recB o u)).length = 44 := tokB_len hrl
        have hTB : isB (tokB k (recB o u)) := tokB_isB (recB_isB o u)
        obtain ⟨N, hN⟩ : ∃ N : Nat, b.tmod 352 = (N : Int) := ⟨(b % 352).toNat, by rw [Int.tmod_eq_emod_of_nonneg hbb.1]; omega⟩
        have hN2 : N < 352 := by rw [Int.tmod_eq_emod_of_nonneg hbb.1] at hN; omega
        obtain ⟨G1, G2⟩ := guarded hk ho hu0 hN2
        have hiss := fun (x : World) (h : Ext w x) => issue_ok k A c o u x (hl.ext h) (hr.ext h) hb hc (by omega) ho hu hk hneg
        have hopen := fun (T : List Int) (hTl : T.length = 44) (hTB : isB T) (g : Nat) (x : World) (h : Ext w x) (hR : Rd x (some ⟨g, 0, none⟩) (byt T)) => open_any k T A c (some ⟨g, 0, none⟩) 44 x (hl.ext h) (hr.ext h) hb hc (by omega) hR hTB (Nat.le_of_eq hTl) (by omega)
        have hop := hopen (tokB k (recB o u)) hTl hTB
        rw [(open_issue hk ho hu0).1, (open_issue hk ho hu0).2, hTl] at hop
        have hflip : ∀ (h : N / 8 < (tokB k (recB o u)).length), (tokB k (recB o u)).set (N / 8) (bits .xor .u8 ((tokB k (recB o u))[N / 8]) (2 ^ (N % 8) % 256)) = flipB (tokB k (recB o u)) N := by
          intro h
          unfold flipB
          rw [List.getD_eq_getElem?_getD, List.getElem?_eq_getElem h]; rfl
        have hFl := (flipB_len (tokB k (recB o u)) N).trans hTl
        have hFB := flipB_isB hTB N
        have hop2 := hopen (flipB (tokB k (recB o u)) N) hFl hFB
        rw [hFl] at hop2
        generalize hTg : tokB k (recB o u) = T at *
        generalize hT2g : flipB T N = T2 at *
        by_cases h39 : N = 39
        · rw [open_bad (by rw [G1 h39]; decide), G1 h39] at hop2
          exact guarded_a k T T2 [] A c o u 0 0 b N w hl hr hc hk hneg ⟨hTl, hTB⟩ ⟨hFl, hFB⟩ hflip hbb hN hN2 hiss hop hop2 h39
        · obtain ⟨hd, Gs, Gn⟩ := G2 h39
          have ht12 : (T2.take 12).length = 12 := by rw [List.length_take, hFl]; rfl
          have htB := isB_take hFB 12
          obtain ⟨p, q, hV, hp, hq, hrec⟩ := rec_of htB hd
          have hrdc := fun (g : Nat) (x : World) (hR : Rd x (some ⟨g, 0, none⟩) (byt (T2.take 12))) => rdec_any (T2.take 12) (some ⟨g, 0, none⟩) 44 x hR htB (by omega) (by omega)
          rw [hV, hd, ht12] at hrdc
          have hriss := fun (x : World) (h : Ext w x) => rissue_any k A c p q x (hr.ext h) hb hc (by omega) hp ⟨by omega, by omega⟩
          rw [show issueB k p q = tokB k (T2.take 12) by unfold issueB; rw [if_pos hk, if_neg (by omega), hrec], show issueE k q = 0 by unfold issueE encE; rw [if_pos hk, if_neg (by omega)]] at hriss
          have hOB : isB (tokB k (T2.take 12)) := tokB_isB htB
          by_cases h96 : N < 96
          · by_cases hO : tokB k (T2.take 12) = T2
            · have h0 := Gs h96 hO
              rw [show openV k T2 = (p, q) by unfold decV at hV; rw [if_pos hd] at hV; unfold openV; rw [if_pos h0, hV], h0] at hop2
              exact guarded_b k T T2 _ A c o u p q b N w hl hr hc hk hneg ⟨hTl, hTB⟩ ⟨hFl, hFB⟩ hflip hbb hN hN2 hiss hop hop2 hrdc hriss hOB h39 h96 hO
            · have h0 := Gn (fun _ => hO)
              rw [open_bad (by rw [h0]; decide), h0] at hop2
              exact guarded_c k T T2 _ A c o u p q b N w hl hr hc hk hneg ⟨hTl, hTB⟩ ⟨hFl, hFB⟩ hflip hbb hN hN2 hiss hop hop2 hrdc hriss hOB h39 h96 hO
          · have h0 := Gn (fun h => absurd h h96)
            rw [open_bad (by rw [h0]; decide), h0] at hop2
            exact guarded_d k T T2 _ A c o u p q b N w hl hr hc hk hneg ⟨hTl, hTB⟩ ⟨hFl, hFB⟩ hflip hbb hN hN2 hiss hop hop2 hrdc hriss hOB h39 h96
end Go.Proofs.YtckmbhdbabnmcaaDoor
