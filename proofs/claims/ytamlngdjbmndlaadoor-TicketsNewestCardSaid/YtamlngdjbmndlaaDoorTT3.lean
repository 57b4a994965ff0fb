/- Tickets: the law TicketsGuarded walked. -/
import Derived.Test.YtamlngdjbmndlaaDoorTT2
namespace Go.Proofs.YtamlngdjbmndlaaDoor
open Go.RowKit Go.Gr
set_option linter.unusedVariables false
set_option linter.unusedSimpArgs false
theorem wf_u16 {n : Int} (h : (Lit.int .u16 n).wf = true) : 0 ≤ n ∧ n < 65536 := by
  have : 0 ≤ n ∧ n ≤ 65535 := by simpa [Lit.wf, IntKind.min, IntKind.max, IntKind.signed, IntKind.bits] using h
  omega
theorem str_inj {a b : List Int} (ha : isB a) (hb : isB b) (h : strOfNums a = strOfNums b) : a = b := by
  have h2 : a.map (fun n => UInt8.ofNat n.toNat) = b.map (fun n => UInt8.ofNat n.toNat) := by
    have := congrArg ByteArray.data h
    simpa [strOfNums] using this
  have h3 := congrArg (List.map fun u : UInt8 => (u.toNat : Int)) h2
  simp only [List.map_map] at h3
  have key : ∀ l : List Int, isB l → l.map ((fun u : UInt8 => (u.toNat : Int)) ∘ fun n : Int => UInt8.ofNat n.toNat) = l := by
    intro l hl
    conv => rhs; rw [← List.map_id l]
    refine List.map_congr_left fun x hx => ?_
    have := hl x hx
    simp only [Function.comp, id]
    rw [UInt8.toNat_ofNat_of_lt' (by simp; omega)]
    omega
  rwa [key a ha, key b hb] at h3
theorem str56 {w : World} {A : Option Addr} {l : List Int} (c n : Nat) (hn : l.length = n) (h : Rd w A (byt l)) : (convert 26 9 (.slice A n c)).run Tryd.prog w = .ok (.string (strOfNums l)) w := by
  subst hn
  exact str_of c h
theorem own_rdL {w : World} {e : TypeId} {A : Option Addr} {n c : Nat} {l : List Int} (h : Own 0 w e (.slice A n c) (byt l)) : Rd w A (byt l) ∧ l.length ≤ c ∧ n = l.length := by
  obtain ⟨A', c', hev, h1, h2⟩ := own_form h
  simp only [Value.slice.injEq] at hev
  obtain ⟨rfl, h3, rfl⟩ := hev
  exact ⟨h1, h2, h3⟩
set_option maxRecDepth 100000 in
set_option maxHeartbeats 4000000 in
theorem guarded_a (k T T2 O : List Int) (A : Option Addr) (c : Nat) (s1 o1 n1 e1 p q r s b : Int) (N : Nat) (w : World) (hl : Laid w) (hr : Rd w A (byt k)) (hc : k.length ≤ c) (hk : keyOk k) (hs1 : s1 < 4096) (hn1 : n1 ≠ 0)
    (hT : T.length = 56 ∧ isB T) (hT2 : T2.length = 56 ∧ isB T2) (hflip : ∀ (h : N / 8 < T.length), T.set (N / 8) (bits .xor .u8 (T[N / 8]) (2 ^ (N % 8) % 256)) = T2) (hb : 0 ≤ b ∧ b < 65536) (hN : b.tmod 448 = (N : Int)) (hN2 : N < 448)
    (hiss : ∀ x, Ext w x → Calls Tryd.prog 15 #[.slice A k.length c, tkv s1 o1 n1 e1] x (RetO x T 0))
    (hop : ∀ A7 c7 x, 56 ≤ c7 → Ext w x → Rd x A7 (byt T) → Calls Tryd.prog 19 #[.slice A k.length c, .slice A7 56 c7] x fun e w' => e = .returned (.tuple #[tkv s1 o1 n1 e1, .int .i64 0]) ∧ Ext x w')
    (hop2 : ∀ A7 c7 x, 56 ≤ c7 → Ext w x → Rd x A7 (byt T2) → Calls Tryd.prog 19 #[.slice A k.length c, .slice A7 56 c7] x fun e w' => e = .returned (.tuple #[tkv 0 0 0 0, .int .i64 11]) ∧ Ext x w')
    (hrdc : ∀ A7 c7 x, 56 ≤ c7 → Rd x A7 (byt (T2.take 24)) → Calls Tryd.prog 14 #[.slice A7 24 c7] x fun e w' => e = .returned (.tuple #[tkv 0 0 0 0, .int .i64 11]) ∧ Ext x w')
    (h96 : N < 192) :
    Calls Tryd.prog 6 #[.slice A k.length c, tkv s1 o1 n1 e1, .int .u16 b] w fun e w' => e = .returned (.bool true) ∧ Ext w w' := by
  have HL := hide hl
  have HR := hide hr
  have HIS := hide hiss
  have HOP := hide hop
  have HOP2 := hide hop2
  have HT := hide hT
  have HT2 := hide hT2
  have HF := hide hflip
  have HRDC := hide hrdc
  have dk1 : ¬ (k.length : Int) < 1 := by have := hk.1; omega
  have dk2 : ¬ (64 : Int) < (k.length : Int) := by have := hk.2; omega
  have ds1 : ¬ (4096 : Int) ≤ s1 := by omega
  have dn1 : (n1 == 0) = false := beq_eq_false_iff_ne.2 hn1
  have HTL : Hid ((byt T).length = 56) := hide (by rw [byt_length, hT.1])
  obtain ⟨m, hm⟩ : ∃ m, N / 8 = m := ⟨_, rfl⟩
  obtain ⟨rr, hr8⟩ : ∃ r, N % 8 = r := ⟨_, rfl⟩
  have e1' : (N : Int).tdiv 8 = (m : Int) := by rw [Int.tdiv_eq_ediv_of_nonneg (by omega)]; omega
  have e2' : (N : Int).tmod 8 = (rr : Int) := by rw [Int.tmod_eq_emod_of_nonneg (by omega)]; omega
  have hm44 : m < 56 := by omega
  have hr8' : rr < 8 := by omega
  have hm44i : (m : Int) < 56 := by omega
  have hmT : m < T.length := by rw [hT.1]; exact hm44
  have HF2 : Hid (T.set m (bits .xor .u8 (T[m]) (2 ^ rr % 256)) = T2) := hide (by subst hm hr8; exact hflip hmT)
  have H0 := box_tk w s1 o1 n1 e1
  obtain ⟨x0, HX⟩ : ∃ x, Hid (T[m] = x) := ⟨_, hide rfl⟩
  obtain ⟨y, HY⟩ : ∃ y, Hid (bits .xor .u8 x0 (2 ^ rr % 256) = y) := ⟨_, hide rfl⟩
  rw [HX.out, HY.out] at HF2
  have hmb : m < (byt T).length := by rw [byt_length]; exact hmT
  have HcT : Hid ((byt T)[m] = .int .u8 x0) := hide (by simp only [byt, List.getElem_map]; rw [HX.out])
  have HMB := hide hmb
  have HS2 : Hid ((byt T).set m (.int .u8 y) = byt T2) := hide (by rw [byt_set, HF2.out])
  have h96i : (N : Int) < 192 := by omega
  clear hl hr hiss hop hop2 hT hT2 hflip hk HF2 hm hr8 HX HF hrdc h96 hs1 hn1 hmT
  have tok1 : True := trivial
  have tok2 : True := trivial
  go_enter Tryd.func6, Tryd.ntmps6
  obtain ⟨c0, c1, c2, c3, hg0⟩ := tk4 (H0.blk (g := w.heap.size) (e := 25) (cs := tkc s1 o1 n1 e1) (List.Mem.head _))
  go_wp2_with fail
  (with_reducible refine (HIS.out _ H0.toExt).mono ?_)
  rintro e w2 ⟨v7, rfl, hS⟩
  have K2 := H0.join hS
  dsimp only [List.nil_append, List.cons_append] at K2
  clear H0 hS c0 c1 c2 c3 hg0
  obtain ⟨g4, G4⟩ : ∃ g, w.heap.size = g := ⟨_, rfl⟩
  rw [G4] at K2 ⊢
  clear G4
  obtain ⟨A7, c7, rfl, hr7, hc7⟩ := own_form (K2.owns (List.Mem.head _))
  rw [HT.out.1] at hc7 K2 ⊢
  obtain ⟨g7, hA7, -⟩ := Sep.ownSet [] K2 HMB.out undef
  subst hA7
  have hc7i : (24 : Int) ≤ (c7 : Int) := by omega
  have HC7 := hide hc7
  clear hc7
  go_wp2_with fail
  (with_reducible refine (HOP.out _ _ _ HC7.out K2.toExt hr7).mono ?_)
  rintro e w3 ⟨rfl, hx⟩
  have K3 := K2.ext hx
  clear K2 hx HOP hr7
  go_upto_region 5 with (first
    | (have zz := tok1; clear zz tok1; refine wpList_alS K3 rfl 25 rfl (tkc 0 0 0 0) (by kernel_rfl) ?_; intro w4 hz4 K4; clear hz4 K3)
    | (have zz := tok2; clear zz tok2; refine wpList_stS [] K4 rfl 25 (.tmp 9) (.tmp 45) rfl rfl (cs := tkc s1 o1 n1 e1) rfl (by kernel_rfl) rfl (tkc_one s1 o1 n1 e1) ?_; intro w5 K5; dsimp only [List.nil_append] at K5; clear K4))
  obtain ⟨g9, G9⟩ : ∃ g, w3.heap.size = g := ⟨_, rfl⟩
  rw [G9] at K5 ⊢
  clear G9
  obtain ⟨c0, c1, c2, c3, hg0⟩ := tk4 (K5.blk (g := g9) (e := 25) (cs := tkc s1 o1 n1 e1) (List.Mem.head _))
  obtain ⟨e0, e1_, e2_, e3, hg1⟩ := tk4 (K5.blk (g := g4) (e := 25) (cs := tkc s1 o1 n1 e1) (List.Mem.tail _ (List.Mem.tail _ (List.Mem.head _))))
  have KK := hide K5
  clear K5
  go_wp2_with fail
  (with_reducible refine (HIS.out _ KK.out.toExt).mono ?_)
  rintro e w6 ⟨v11, rfl, hS⟩
  have K6 := KK.out.join hS
  dsimp only [List.nil_append, List.cons_append] at K6
  clear KK hS c0 c1 c2 c3 hg0 e0 e1_ e2_ e3 hg1 HIS
  obtain ⟨A11, c11, rfl, hr11, hc11⟩ := own_form (K6.owns (List.Mem.head _))
  rw [HT.out.1] at hc11 K6 ⊢
  have hcv1 := str56 c11 56 HT.out.1 hr11
  have hcv2 := str56 c7 56 HT.out.1 (own_rdL (K6.owns (e := 5) (v := .slice (some ⟨g7, 0, none⟩) 56 c7) (xs := byt T) (List.Mem.tail _ (List.Mem.tail _ (List.Mem.head _))))).1
  generalize strOfNums T = sT at hcv1 hcv2
  obtain ⟨g7', hA7, cq, fq, hg7, K8'⟩ := Sep.ownSet [_, _] K6 HMB.out (.int .u8 y)
  simp only [Option.some.injEq, Addr.mk.injEq, and_true] at hA7
  subst hA7
  rw [HcT.out] at cq
  have K8 := hide K8'
  clear K6 K8' hr11 hc11
  have hg7c : m < 56 := hm44
  have hmc : (m : Int) < (c7 : Int) := by have := HC7.out; omega
  go_wp2_with fail
  rw [HY.out]
  have K9 := K8.out
  dsimp only [List.nil_append, List.cons_append] at K9
  rw [HS2.out] at K9
  clear K8 HS2 HY cq fq hg7 hcv1 hcv2
  have hrT2 := (own_rdL (K9.owns (e := 5) (v := .slice (some ⟨g7, 0, none⟩) 56 c7) (xs := byt T2) (List.Mem.tail _ (List.Mem.tail _ (List.Mem.head _))))).1
  (with_reducible refine (HOP2.out _ _ _ HC7.out K9.toExt hrT2).mono ?_)
  rintro e wa ⟨rfl, hx⟩
  have Ka := K9.ext hx
  clear K9 hx HOP2 hrT2
  have tok3 : True := trivial
  go_upto_region 13 with (have zz := tok3; clear zz tok3; refine wpList_stS [_] Ka rfl 25 (.tmp 9) (.tmp 99) rfl rfl (cs := tkc 0 0 0 0) rfl (by kernel_rfl) rfl (tkc_one 0 0 0 0) ?_; intro wb Kb; dsimp only [List.nil_append, List.cons_append] at Kb; clear Ka)
  have hrT2 := Rd.take_ (own_rdL (Kb.owns (e := 5) (v := .slice (some ⟨g7, 0, none⟩) 56 c7) (xs := byt T2) (List.Mem.tail _ (List.Mem.tail _ (List.Mem.head _))))).1 24
  rw [byt_take] at hrT2
  have HR7 := hide hrT2
  have KK := hide Kb
  clear Kb hrT2
  go_wp2_with fail
  (with_reducible refine (HRDC.out _ _ _ HC7.out HR7.out).mono ?_)
  rintro e wc ⟨rfl, hx⟩
  have Kc := KK.out.ext hx
  clear KK hx HRDC HR7
  have tok4 : True := trivial
  have tok5 : True := trivial
  go_upto_region 14 with (first
    | (have zz := tok4; clear zz tok4; refine wpList_alS Kc rfl 25 rfl (tkc 0 0 0 0) (by kernel_rfl) ?_; intro wd hzd Kd; clear hzd Kc)
    | (have zz := tok5; clear zz tok5; refine wpList_stS [] Kd rfl 25 (.tmp 13) (.tmp 105) rfl rfl (cs := tkc 0 0 0 0) rfl (by kernel_rfl) rfl (tkc_one 0 0 0 0) ?_; intro we Ke; dsimp only [List.nil_append] at Ke; clear Kd))
  obtain ⟨g13, G13⟩ : ∃ g, wc.heap.size = g := ⟨_, rfl⟩
  rw [G13] at Ke ⊢
  clear G13
  obtain ⟨c0, c1, c2, c3, hg0⟩ := tk4 (Ke.blk (g := g9) (e := 25) (cs := tkc 0 0 0 0) (List.Mem.tail _ (List.Mem.tail _ (List.Mem.head _))))
  have KK := hide Ke.toExt
  clear Ke
  go_wp2_with fail
  (with_reducible refine (tshown_any _ (HL.out.ext KK.out)).mono ?_)
  rintro e we ⟨rfl, hxe⟩
  go_wp2_with fail
  go_ret
  exact ⟨rfl, KK.out.trans hxe⟩
set_option maxRecDepth 100000 in
set_option maxHeartbeats 4000000 in
theorem guarded_b (k T T2 O : List Int) (A : Option Addr) (c : Nat) (s1 o1 n1 e1 p q r s b : Int) (N : Nat) (w : World) (hl : Laid w) (hr : Rd w A (byt k)) (hc : k.length ≤ c) (hk : keyOk k) (hs1 : s1 < 4096) (hn1 : n1 ≠ 0)
    (hT : T.length = 56 ∧ isB T) (hT2 : T2.length = 56 ∧ isB T2) (hflip : ∀ (h : N / 8 < T.length), T.set (N / 8) (bits .xor .u8 (T[N / 8]) (2 ^ (N % 8) % 256)) = T2) (hb : 0 ≤ b ∧ b < 65536) (hN : b.tmod 448 = (N : Int)) (hN2 : N < 448)
    (hiss : ∀ x, Ext w x → Calls Tryd.prog 15 #[.slice A k.length c, tkv s1 o1 n1 e1] x (RetO x T 0))
    (hop : ∀ A7 c7 x, 56 ≤ c7 → Ext w x → Rd x A7 (byt T) → Calls Tryd.prog 19 #[.slice A k.length c, .slice A7 56 c7] x fun e w' => e = .returned (.tuple #[tkv s1 o1 n1 e1, .int .i64 0]) ∧ Ext x w')
    (hop2 : ∀ A7 c7 x, 56 ≤ c7 → Ext w x → Rd x A7 (byt T2) → Calls Tryd.prog 19 #[.slice A k.length c, .slice A7 56 c7] x fun e w' => e = .returned (.tuple #[tkv p q r s, .int .i64 0]) ∧ Ext x w')
    (hrdc : ∀ A7 c7 x, 56 ≤ c7 → Rd x A7 (byt (T2.take 24)) → Calls Tryd.prog 14 #[.slice A7 24 c7] x fun e w' => e = .returned (.tuple #[tkv p q r s, .int .i64 0]) ∧ Ext x w')
    (hriss : ∀ x, Ext w x → Calls Tryd.prog 16 #[.slice A k.length c, tkv p q r s] x (RetO x O 0)) (hO : isB O)
    (h96 : N < 192) (hOT : O = T2) :
    Calls Tryd.prog 6 #[.slice A k.length c, tkv s1 o1 n1 e1, .int .u16 b] w fun e w' => e = .returned (.bool true) ∧ Ext w w' := by
  have HL := hide hl
  have HR := hide hr
  have HIS := hide hiss
  have HOP := hide hop
  have HOP2 := hide hop2
  have HT := hide hT
  have HT2 := hide hT2
  have HF := hide hflip
  have HRDC := hide hrdc
  have dk1 : ¬ (k.length : Int) < 1 := by have := hk.1; omega
  have dk2 : ¬ (64 : Int) < (k.length : Int) := by have := hk.2; omega
  have ds1 : ¬ (4096 : Int) ≤ s1 := by omega
  have dn1 : (n1 == 0) = false := beq_eq_false_iff_ne.2 hn1
  have HTL : Hid ((byt T).length = 56) := hide (by rw [byt_length, hT.1])
  obtain ⟨m, hm⟩ : ∃ m, N / 8 = m := ⟨_, rfl⟩
  obtain ⟨rr, hr8⟩ : ∃ r, N % 8 = r := ⟨_, rfl⟩
  have e1' : (N : Int).tdiv 8 = (m : Int) := by rw [Int.tdiv_eq_ediv_of_nonneg (by omega)]; omega
  have e2' : (N : Int).tmod 8 = (rr : Int) := by rw [Int.tmod_eq_emod_of_nonneg (by omega)]; omega
  have hm44 : m < 56 := by omega
  have hr8' : rr < 8 := by omega
  have hm44i : (m : Int) < 56 := by omega
  have hmT : m < T.length := by rw [hT.1]; exact hm44
  have HF2 : Hid (T.set m (bits .xor .u8 (T[m]) (2 ^ rr % 256)) = T2) := hide (by subst hm hr8; exact hflip hmT)
  have H0 := box_tk w s1 o1 n1 e1
  obtain ⟨x0, HX⟩ : ∃ x, Hid (T[m] = x) := ⟨_, hide rfl⟩
  obtain ⟨y, HY⟩ : ∃ y, Hid (bits .xor .u8 x0 (2 ^ rr % 256) = y) := ⟨_, hide rfl⟩
  rw [HX.out, HY.out] at HF2
  have hmb : m < (byt T).length := by rw [byt_length]; exact hmT
  have HcT : Hid ((byt T)[m] = .int .u8 x0) := hide (by simp only [byt, List.getElem_map]; rw [HX.out])
  have HMB := hide hmb
  have HS2 : Hid ((byt T).set m (.int .u8 y) = byt T2) := hide (by rw [byt_set, HF2.out])
  have HRIS := hide hriss
  have h96i : (N : Int) < 192 := by omega
  clear hl hr hiss hop hop2 hT hT2 hflip hk HF2 hm hr8 HX HF hrdc h96 hs1 hn1 hmT hriss hO
  have tok1 : True := trivial
  have tok2 : True := trivial
  go_enter Tryd.func6, Tryd.ntmps6
  obtain ⟨c0, c1, c2, c3, hg0⟩ := tk4 (H0.blk (g := w.heap.size) (e := 25) (cs := tkc s1 o1 n1 e1) (List.Mem.head _))
  go_wp2_with fail
  (with_reducible refine (HIS.out _ H0.toExt).mono ?_)
  rintro e w2 ⟨v7, rfl, hS⟩
  have K2 := H0.join hS
  dsimp only [List.nil_append, List.cons_append] at K2
  clear H0 hS c0 c1 c2 c3 hg0
  obtain ⟨g4, G4⟩ : ∃ g, w.heap.size = g := ⟨_, rfl⟩
  rw [G4] at K2 ⊢
  clear G4
  obtain ⟨A7, c7, rfl, hr7, hc7⟩ := own_form (K2.owns (List.Mem.head _))
  rw [HT.out.1] at hc7 K2 ⊢
  obtain ⟨g7, hA7, -⟩ := Sep.ownSet [] K2 HMB.out undef
  subst hA7
  have hc7i : (24 : Int) ≤ (c7 : Int) := by omega
  have HC7 := hide hc7
  clear hc7
  go_wp2_with fail
  (with_reducible refine (HOP.out _ _ _ HC7.out K2.toExt hr7).mono ?_)
  rintro e w3 ⟨rfl, hx⟩
  have K3 := K2.ext hx
  clear K2 hx HOP hr7
  go_upto_region 5 with (first
    | (have zz := tok1; clear zz tok1; refine wpList_alS K3 rfl 25 rfl (tkc 0 0 0 0) (by kernel_rfl) ?_; intro w4 hz4 K4; clear hz4 K3)
    | (have zz := tok2; clear zz tok2; refine wpList_stS [] K4 rfl 25 (.tmp 9) (.tmp 45) rfl rfl (cs := tkc s1 o1 n1 e1) rfl (by kernel_rfl) rfl (tkc_one s1 o1 n1 e1) ?_; intro w5 K5; dsimp only [List.nil_append] at K5; clear K4))
  obtain ⟨g9, G9⟩ : ∃ g, w3.heap.size = g := ⟨_, rfl⟩
  rw [G9] at K5 ⊢
  clear G9
  obtain ⟨c0, c1, c2, c3, hg0⟩ := tk4 (K5.blk (g := g9) (e := 25) (cs := tkc s1 o1 n1 e1) (List.Mem.head _))
  obtain ⟨e0, e1_, e2_, e3, hg1⟩ := tk4 (K5.blk (g := g4) (e := 25) (cs := tkc s1 o1 n1 e1) (List.Mem.tail _ (List.Mem.tail _ (List.Mem.head _))))
  have KK := hide K5
  clear K5
  go_wp2_with fail
  (with_reducible refine (HIS.out _ KK.out.toExt).mono ?_)
  rintro e w6 ⟨v11, rfl, hS⟩
  have K6 := KK.out.join hS
  dsimp only [List.nil_append, List.cons_append] at K6
  clear KK hS c0 c1 c2 c3 hg0 e0 e1_ e2_ e3 hg1 HIS
  obtain ⟨A11, c11, rfl, hr11, hc11⟩ := own_form (K6.owns (List.Mem.head _))
  rw [HT.out.1] at hc11 K6 ⊢
  have hcv1 := str56 c11 56 HT.out.1 hr11
  have hcv2 := str56 c7 56 HT.out.1 (own_rdL (K6.owns (e := 5) (v := .slice (some ⟨g7, 0, none⟩) 56 c7) (xs := byt T) (List.Mem.tail _ (List.Mem.tail _ (List.Mem.head _))))).1
  generalize strOfNums T = sT at hcv1 hcv2
  obtain ⟨g7', hA7, cq, fq, hg7, K8'⟩ := Sep.ownSet [_, _] K6 HMB.out (.int .u8 y)
  simp only [Option.some.injEq, Addr.mk.injEq, and_true] at hA7
  subst hA7
  rw [HcT.out] at cq
  have K8 := hide K8'
  clear K6 K8' hr11 hc11
  have hg7c : m < 56 := hm44
  have hmc : (m : Int) < (c7 : Int) := by have := HC7.out; omega
  go_wp2_with fail
  rw [HY.out]
  have K9 := K8.out
  dsimp only [List.nil_append, List.cons_append] at K9
  rw [HS2.out] at K9
  clear K8 HS2 HY cq fq hg7 hcv1 hcv2
  have hrT2 := (own_rdL (K9.owns (e := 5) (v := .slice (some ⟨g7, 0, none⟩) 56 c7) (xs := byt T2) (List.Mem.tail _ (List.Mem.tail _ (List.Mem.head _))))).1
  (with_reducible refine (HOP2.out _ _ _ HC7.out K9.toExt hrT2).mono ?_)
  rintro e wa ⟨rfl, hx⟩
  have Ka := K9.ext hx
  clear K9 hx HOP2 hrT2
  have tok3 : True := trivial
  go_upto_region 13 with (have zz := tok3; clear zz tok3; refine wpList_stS [_] Ka rfl 25 (.tmp 9) (.tmp 99) rfl rfl (cs := tkc p q r s) rfl (by kernel_rfl) rfl (tkc_one p q r s) ?_; intro wb Kb; dsimp only [List.nil_append, List.cons_append] at Kb; clear Ka)
  have hrT2 := Rd.take_ (own_rdL (Kb.owns (e := 5) (v := .slice (some ⟨g7, 0, none⟩) 56 c7) (xs := byt T2) (List.Mem.tail _ (List.Mem.tail _ (List.Mem.head _))))).1 24
  rw [byt_take] at hrT2
  have HR7 := hide hrT2
  have KK := hide Kb
  clear Kb hrT2
  go_wp2_with fail
  (with_reducible refine (HRDC.out _ _ _ HC7.out HR7.out).mono ?_)
  rintro e wc ⟨rfl, hx⟩
  have Kc := KK.out.ext hx
  clear KK hx HRDC HR7
  have tok4 : True := trivial
  have tok5 : True := trivial
  go_upto_region 14 with (first
    | (have zz := tok4; clear zz tok4; refine wpList_alS Kc rfl 25 rfl (tkc 0 0 0 0) (by kernel_rfl) ?_; intro wd hzd Kd; clear hzd Kc)
    | (have zz := tok5; clear zz tok5; refine wpList_stS [] Kd rfl 25 (.tmp 13) (.tmp 105) rfl rfl (cs := tkc p q r s) rfl (by kernel_rfl) rfl (tkc_one p q r s) ?_; intro we Ke; dsimp only [List.nil_append] at Ke; clear Kd))
  obtain ⟨g13, G13⟩ : ∃ g, wc.heap.size = g := ⟨_, rfl⟩
  rw [G13] at Ke ⊢
  clear G13
  obtain ⟨c0, c1, c2, c3, hg0⟩ := tk4 (Ke.blk (g := g13) (e := 25) (cs := tkc p q r s) (List.Mem.head _))
  have KK := hide Ke
  clear Ke
  go_wp2_with fail
  (with_reducible refine (HRIS.out _ KK.out.toExt).mono ?_)
  rintro e wf ⟨v15, rfl, hS⟩
  have Kf := KK.out.join hS
  dsimp only [List.nil_append, List.cons_append] at Kf
  clear KK hS c0 c1 c2 c3 hg0 HRIS
  obtain ⟨A3, cc3, rfl, hr3, hc3⟩ := own_form (Kf.owns (List.Mem.head _))
  obtain ⟨c0, c1, c2, c3, hg0⟩ := tk4 (Kf.blk (g := g13) (e := 25) (cs := tkc p q r s) (List.Mem.tail _ (List.Mem.head _)))
  obtain ⟨e0, e1_, e2_, e3, hg1⟩ := tk4 (Kf.blk (g := g9) (e := 25) (cs := tkc p q r s) (List.Mem.tail _ (List.Mem.tail _ (List.Mem.tail _ (List.Mem.head _)))))
  have hcv1 := str_of cc3 hr3
  have hcv2 := str56 c7 56 HT2.out.1 (own_rdL (Kf.owns (e := 5) (v := .slice (some ⟨g7, 0, none⟩) 56 c7) (xs := byt T2) (List.Mem.tail _ (List.Mem.tail _ (List.Mem.tail _ (List.Mem.tail _ (List.Mem.head _))))))).1
  rw [show strOfNums O = strOfNums T2 by rw [hOT]] at hcv1
  clear hOT
  generalize strOfNums T2 = sT at hcv1 hcv2
  have KK := hide Kf.toExt
  clear Kf hr3
  go_wp2_with fail
  (with_reducible refine (tshown_any _ (HL.out.ext KK.out)).mono ?_)
  rintro e wg ⟨rfl, hxe⟩
  go_wp2_with fail
  go_ret
  exact ⟨rfl, KK.out.trans hxe⟩
set_option maxRecDepth 100000 in
set_option maxHeartbeats 4000000 in
theorem guarded_c (k T T2 O : List Int) (A : Option Addr) (c : Nat) (s1 o1 n1 e1 p q r s b : Int) (N : Nat) (w : World) (hl : Laid w) (hr : Rd w A (byt k)) (hc : k.length ≤ c) (hk : keyOk k) (hs1 : s1 < 4096) (hn1 : n1 ≠ 0)
    (hT : T.length = 56 ∧ isB T) (hT2 : T2.length = 56 ∧ isB T2) (hflip : ∀ (h : N / 8 < T.length), T.set (N / 8) (bits .xor .u8 (T[N / 8]) (2 ^ (N % 8) % 256)) = T2) (hb : 0 ≤ b ∧ b < 65536) (hN : b.tmod 448 = (N : Int)) (hN2 : N < 448)
    (hiss : ∀ x, Ext w x → Calls Tryd.prog 15 #[.slice A k.length c, tkv s1 o1 n1 e1] x (RetO x T 0))
    (hop : ∀ A7 c7 x, 56 ≤ c7 → Ext w x → Rd x A7 (byt T) → Calls Tryd.prog 19 #[.slice A k.length c, .slice A7 56 c7] x fun e w' => e = .returned (.tuple #[tkv s1 o1 n1 e1, .int .i64 0]) ∧ Ext x w')
    (hop2 : ∀ A7 c7 x, 56 ≤ c7 → Ext w x → Rd x A7 (byt T2) → Calls Tryd.prog 19 #[.slice A k.length c, .slice A7 56 c7] x fun e w' => e = .returned (.tuple #[tkv 0 0 0 0, .int .i64 12]) ∧ Ext x w')
    (hrdc : ∀ A7 c7 x, 56 ≤ c7 → Rd x A7 (byt (T2.take 24)) → Calls Tryd.prog 14 #[.slice A7 24 c7] x fun e w' => e = .returned (.tuple #[tkv p q r s, .int .i64 0]) ∧ Ext x w')
    (hriss : ∀ x, Ext w x → Calls Tryd.prog 16 #[.slice A k.length c, tkv p q r s] x (RetO x O 0)) (hO : isB O)
    (h96 : N < 192) (hOT : O ≠ T2) :
    Calls Tryd.prog 6 #[.slice A k.length c, tkv s1 o1 n1 e1, .int .u16 b] w fun e w' => e = .returned (.bool true) ∧ Ext w w' := by
  have HL := hide hl
  have HR := hide hr
  have HIS := hide hiss
  have HOP := hide hop
  have HOP2 := hide hop2
  have HT := hide hT
  have HT2 := hide hT2
  have HF := hide hflip
  have HRDC := hide hrdc
  have dk1 : ¬ (k.length : Int) < 1 := by have := hk.1; omega
  have dk2 : ¬ (64 : Int) < (k.length : Int) := by have := hk.2; omega
  have ds1 : ¬ (4096 : Int) ≤ s1 := by omega
  have dn1 : (n1 == 0) = false := beq_eq_false_iff_ne.2 hn1
  have HTL : Hid ((byt T).length = 56) := hide (by rw [byt_length, hT.1])
  obtain ⟨m, hm⟩ : ∃ m, N / 8 = m := ⟨_, rfl⟩
  obtain ⟨rr, hr8⟩ : ∃ r, N % 8 = r := ⟨_, rfl⟩
  have e1' : (N : Int).tdiv 8 = (m : Int) := by rw [Int.tdiv_eq_ediv_of_nonneg (by omega)]; omega
  have e2' : (N : Int).tmod 8 = (rr : Int) := by rw [Int.tmod_eq_emod_of_nonneg (by omega)]; omega
  have hm44 : m < 56 := by omega
  have hr8' : rr < 8 := by omega
  have hm44i : (m : Int) < 56 := by omega
  have hmT : m < T.length := by rw [hT.1]; exact hm44
  have HF2 : Hid (T.set m (bits .xor .u8 (T[m]) (2 ^ rr % 256)) = T2) := hide (by subst hm hr8; exact hflip hmT)
  have H0 := box_tk w s1 o1 n1 e1
  obtain ⟨x0, HX⟩ : ∃ x, Hid (T[m] = x) := ⟨_, hide rfl⟩
  obtain ⟨y, HY⟩ : ∃ y, Hid (bits .xor .u8 x0 (2 ^ rr % 256) = y) := ⟨_, hide rfl⟩
  rw [HX.out, HY.out] at HF2
  have hmb : m < (byt T).length := by rw [byt_length]; exact hmT
  have HcT : Hid ((byt T)[m] = .int .u8 x0) := hide (by simp only [byt, List.getElem_map]; rw [HX.out])
  have HMB := hide hmb
  have HS2 : Hid ((byt T).set m (.int .u8 y) = byt T2) := hide (by rw [byt_set, HF2.out])
  have HRIS := hide hriss
  have h96i : (N : Int) < 192 := by omega
  have hsne : ¬ strOfNums O = strOfNums T2 := fun e => hOT (str_inj hO hT2.2 e)
  clear hl hr hiss hop hop2 hT hT2 hflip hk HF2 hm hr8 HX HF hrdc h96 hs1 hn1 hmT hriss hO hOT
  have tok1 : True := trivial
  have tok2 : True := trivial
  go_enter Tryd.func6, Tryd.ntmps6
  obtain ⟨c0, c1, c2, c3, hg0⟩ := tk4 (H0.blk (g := w.heap.size) (e := 25) (cs := tkc s1 o1 n1 e1) (List.Mem.head _))
  go_wp2_with fail
  (with_reducible refine (HIS.out _ H0.toExt).mono ?_)
  rintro e w2 ⟨v7, rfl, hS⟩
  have K2 := H0.join hS
  dsimp only [List.nil_append, List.cons_append] at K2
  clear H0 hS c0 c1 c2 c3 hg0
  obtain ⟨g4, G4⟩ : ∃ g, w.heap.size = g := ⟨_, rfl⟩
  rw [G4] at K2 ⊢
  clear G4
  obtain ⟨A7, c7, rfl, hr7, hc7⟩ := own_form (K2.owns (List.Mem.head _))
  rw [HT.out.1] at hc7 K2 ⊢
  obtain ⟨g7, hA7, -⟩ := Sep.ownSet [] K2 HMB.out undef
  subst hA7
  have hc7i : (24 : Int) ≤ (c7 : Int) := by omega
  have HC7 := hide hc7
  clear hc7
  go_wp2_with fail
  (with_reducible refine (HOP.out _ _ _ HC7.out K2.toExt hr7).mono ?_)
  rintro e w3 ⟨rfl, hx⟩
  have K3 := K2.ext hx
  clear K2 hx HOP hr7
  go_upto_region 5 with (first
    | (have zz := tok1; clear zz tok1; refine wpList_alS K3 rfl 25 rfl (tkc 0 0 0 0) (by kernel_rfl) ?_; intro w4 hz4 K4; clear hz4 K3)
    | (have zz := tok2; clear zz tok2; refine wpList_stS [] K4 rfl 25 (.tmp 9) (.tmp 45) rfl rfl (cs := tkc s1 o1 n1 e1) rfl (by kernel_rfl) rfl (tkc_one s1 o1 n1 e1) ?_; intro w5 K5; dsimp only [List.nil_append] at K5; clear K4))
  obtain ⟨g9, G9⟩ : ∃ g, w3.heap.size = g := ⟨_, rfl⟩
  rw [G9] at K5 ⊢
  clear G9
  obtain ⟨c0, c1, c2, c3, hg0⟩ := tk4 (K5.blk (g := g9) (e := 25) (cs := tkc s1 o1 n1 e1) (List.Mem.head _))
  obtain ⟨e0, e1_, e2_, e3, hg1⟩ := tk4 (K5.blk (g := g4) (e := 25) (cs := tkc s1 o1 n1 e1) (List.Mem.tail _ (List.Mem.tail _ (List.Mem.head _))))
  have KK := hide K5
  clear K5
  go_wp2_with fail
  (with_reducible refine (HIS.out _ KK.out.toExt).mono ?_)
  rintro e w6 ⟨v11, rfl, hS⟩
  have K6 := KK.out.join hS
  dsimp only [List.nil_append, List.cons_append] at K6
  clear KK hS c0 c1 c2 c3 hg0 e0 e1_ e2_ e3 hg1 HIS
  obtain ⟨A11, c11, rfl, hr11, hc11⟩ := own_form (K6.owns (List.Mem.head _))
  rw [HT.out.1] at hc11 K6 ⊢
  have hcv1 := str56 c11 56 HT.out.1 hr11
  have hcv2 := str56 c7 56 HT.out.1 (own_rdL (K6.owns (e := 5) (v := .slice (some ⟨g7, 0, none⟩) 56 c7) (xs := byt T) (List.Mem.tail _ (List.Mem.tail _ (List.Mem.head _))))).1
  generalize strOfNums T = sT at hcv1 hcv2
  obtain ⟨g7', hA7, cq, fq, hg7, K8'⟩ := Sep.ownSet [_, _] K6 HMB.out (.int .u8 y)
  simp only [Option.some.injEq, Addr.mk.injEq, and_true] at hA7
  subst hA7
  rw [HcT.out] at cq
  have K8 := hide K8'
  clear K6 K8' hr11 hc11
  have hg7c : m < 56 := hm44
  have hmc : (m : Int) < (c7 : Int) := by have := HC7.out; omega
  go_wp2_with fail
  rw [HY.out]
  have K9 := K8.out
  dsimp only [List.nil_append, List.cons_append] at K9
  rw [HS2.out] at K9
  clear K8 HS2 HY cq fq hg7 hcv1 hcv2
  have hrT2 := (own_rdL (K9.owns (e := 5) (v := .slice (some ⟨g7, 0, none⟩) 56 c7) (xs := byt T2) (List.Mem.tail _ (List.Mem.tail _ (List.Mem.head _))))).1
  (with_reducible refine (HOP2.out _ _ _ HC7.out K9.toExt hrT2).mono ?_)
  rintro e wa ⟨rfl, hx⟩
  have Ka := K9.ext hx
  clear K9 hx HOP2 hrT2
  have tok3 : True := trivial
  go_upto_region 13 with (have zz := tok3; clear zz tok3; refine wpList_stS [_] Ka rfl 25 (.tmp 9) (.tmp 99) rfl rfl (cs := tkc 0 0 0 0) rfl (by kernel_rfl) rfl (tkc_one 0 0 0 0) ?_; intro wb Kb; dsimp only [List.nil_append, List.cons_append] at Kb; clear Ka)
  have hrT2 := Rd.take_ (own_rdL (Kb.owns (e := 5) (v := .slice (some ⟨g7, 0, none⟩) 56 c7) (xs := byt T2) (List.Mem.tail _ (List.Mem.tail _ (List.Mem.head _))))).1 24
  rw [byt_take] at hrT2
  have HR7 := hide hrT2
  have KK := hide Kb
  clear Kb hrT2
  go_wp2_with fail
  (with_reducible refine (HRDC.out _ _ _ HC7.out HR7.out).mono ?_)
  rintro e wc ⟨rfl, hx⟩
  have Kc := KK.out.ext hx
  clear KK hx HRDC HR7
  have tok4 : True := trivial
  have tok5 : True := trivial
  go_upto_region 14 with (first
    | (have zz := tok4; clear zz tok4; refine wpList_alS Kc rfl 25 rfl (tkc 0 0 0 0) (by kernel_rfl) ?_; intro wd hzd Kd; clear hzd Kc)
    | (have zz := tok5; clear zz tok5; refine wpList_stS [] Kd rfl 25 (.tmp 13) (.tmp 105) rfl rfl (cs := tkc p q r s) rfl (by kernel_rfl) rfl (tkc_one p q r s) ?_; intro we Ke; dsimp only [List.nil_append] at Ke; clear Kd))
  obtain ⟨g13, G13⟩ : ∃ g, wc.heap.size = g := ⟨_, rfl⟩
  rw [G13] at Ke ⊢
  clear G13
  obtain ⟨c0, c1, c2, c3, hg0⟩ := tk4 (Ke.blk (g := g13) (e := 25) (cs := tkc p q r s) (List.Mem.head _))
  have KK := hide Ke
  clear Ke
  go_wp2_with fail
  (with_reducible refine (HRIS.out _ KK.out.toExt).mono ?_)
  rintro e wf ⟨v15, rfl, hS⟩
  have Kf := KK.out.join hS
  dsimp only [List.nil_append, List.cons_append] at Kf
  clear KK hS c0 c1 c2 c3 hg0 HRIS
  obtain ⟨A3, cc3, rfl, hr3, hc3⟩ := own_form (Kf.owns (List.Mem.head _))
  obtain ⟨c0, c1, c2, c3, hg0⟩ := tk4 (Kf.blk (g := g13) (e := 25) (cs := tkc p q r s) (List.Mem.tail _ (List.Mem.head _)))
  obtain ⟨e0, e1_, e2_, e3, hg1⟩ := tk4 (Kf.blk (g := g9) (e := 25) (cs := tkc 0 0 0 0) (List.Mem.tail _ (List.Mem.tail _ (List.Mem.tail _ (List.Mem.head _)))))
  have hcv1 := str_of cc3 hr3
  have hcv2 := str56 c7 56 HT2.out.1 (own_rdL (Kf.owns (e := 5) (v := .slice (some ⟨g7, 0, none⟩) 56 c7) (xs := byt T2) (List.Mem.tail _ (List.Mem.tail _ (List.Mem.tail _ (List.Mem.tail _ (List.Mem.head _))))))).1
  generalize strOfNums T2 = sT at hcv1 hcv2 hsne
  generalize strOfNums O = sO at hcv1 hsne
  have hs1 : (sO.toList == sT.toList) = false := beq_eq_false_iff_ne.2 (fun e => hsne (ByteArray.ext (Array.toList_inj.1 (by rwa [ByteArray.toList_eq, ByteArray.toList_eq] at e))))
  have KK := hide Kf.toExt
  clear Kf hr3
  go_wp2_with fail
  (with_reducible refine (tshown_any _ (HL.out.ext KK.out)).mono ?_)
  rintro e wg ⟨rfl, hxe⟩
  go_wp2_with fail
  go_ret
  exact ⟨rfl, KK.out.trans hxe⟩
set_option maxRecDepth 100000 in
set_option maxHeartbeats 4000000 in
theorem guarded_d (k T T2 O : List Int) (A : Option Addr) (c : Nat) (s1 o1 n1 e1 p q r s b : Int) (N : Nat) (w : World) (hl : Laid w) (hr : Rd w A (byt k)) (hc : k.length ≤ c) (hk : keyOk k) (hs1 : s1 < 4096) (hn1 : n1 ≠ 0)
    (hT : T.length = 56 ∧ isB T) (hT2 : T2.length = 56 ∧ isB T2) (hflip : ∀ (h : N / 8 < T.length), T.set (N / 8) (bits .xor .u8 (T[N / 8]) (2 ^ (N % 8) % 256)) = T2) (hb : 0 ≤ b ∧ b < 65536) (hN : b.tmod 448 = (N : Int)) (hN2 : N < 448)
    (hiss : ∀ x, Ext w x → Calls Tryd.prog 15 #[.slice A k.length c, tkv s1 o1 n1 e1] x (RetO x T 0))
    (hop : ∀ A7 c7 x, 56 ≤ c7 → Ext w x → Rd x A7 (byt T) → Calls Tryd.prog 19 #[.slice A k.length c, .slice A7 56 c7] x fun e w' => e = .returned (.tuple #[tkv s1 o1 n1 e1, .int .i64 0]) ∧ Ext x w')
    (hop2 : ∀ A7 c7 x, 56 ≤ c7 → Ext w x → Rd x A7 (byt T2) → Calls Tryd.prog 19 #[.slice A k.length c, .slice A7 56 c7] x fun e w' => e = .returned (.tuple #[tkv 0 0 0 0, .int .i64 12]) ∧ Ext x w')
    (hrdc : ∀ A7 c7 x, 56 ≤ c7 → Rd x A7 (byt (T2.take 24)) → Calls Tryd.prog 14 #[.slice A7 24 c7] x fun e w' => e = .returned (.tuple #[tkv p q r s, .int .i64 0]) ∧ Ext x w')
    (hriss : ∀ x, Ext w x → Calls Tryd.prog 16 #[.slice A k.length c, tkv p q r s] x (RetO x O 0)) (hO : isB O)
    (h96 : ¬ N < 192) :
    Calls Tryd.prog 6 #[.slice A k.length c, tkv s1 o1 n1 e1, .int .u16 b] w fun e w' => e = .returned (.bool true) ∧ Ext w w' := by
  have HL := hide hl
  have HR := hide hr
  have HIS := hide hiss
  have HOP := hide hop
  have HOP2 := hide hop2
  have HT := hide hT
  have HT2 := hide hT2
  have HF := hide hflip
  have HRDC := hide hrdc
  have dk1 : ¬ (k.length : Int) < 1 := by have := hk.1; omega
  have dk2 : ¬ (64 : Int) < (k.length : Int) := by have := hk.2; omega
  have ds1 : ¬ (4096 : Int) ≤ s1 := by omega
  have dn1 : (n1 == 0) = false := beq_eq_false_iff_ne.2 hn1
  have HTL : Hid ((byt T).length = 56) := hide (by rw [byt_length, hT.1])
  obtain ⟨m, hm⟩ : ∃ m, N / 8 = m := ⟨_, rfl⟩
  obtain ⟨rr, hr8⟩ : ∃ r, N % 8 = r := ⟨_, rfl⟩
  have e1' : (N : Int).tdiv 8 = (m : Int) := by rw [Int.tdiv_eq_ediv_of_nonneg (by omega)]; omega
  have e2' : (N : Int).tmod 8 = (rr : Int) := by rw [Int.tmod_eq_emod_of_nonneg (by omega)]; omega
  have hm44 : m < 56 := by omega
  have hr8' : rr < 8 := by omega
  have hm44i : (m : Int) < 56 := by omega
  have hmT : m < T.length := by rw [hT.1]; exact hm44
  have HF2 : Hid (T.set m (bits .xor .u8 (T[m]) (2 ^ rr % 256)) = T2) := hide (by subst hm hr8; exact hflip hmT)
  have H0 := box_tk w s1 o1 n1 e1
  obtain ⟨x0, HX⟩ : ∃ x, Hid (T[m] = x) := ⟨_, hide rfl⟩
  obtain ⟨y, HY⟩ : ∃ y, Hid (bits .xor .u8 x0 (2 ^ rr % 256) = y) := ⟨_, hide rfl⟩
  rw [HX.out, HY.out] at HF2
  have hmb : m < (byt T).length := by rw [byt_length]; exact hmT
  have HcT : Hid ((byt T)[m] = .int .u8 x0) := hide (by simp only [byt, List.getElem_map]; rw [HX.out])
  have HMB := hide hmb
  have HS2 : Hid ((byt T).set m (.int .u8 y) = byt T2) := hide (by rw [byt_set, HF2.out])
  have HRIS := hide hriss
  have h96i : ¬ (N : Int) < 192 := by omega
  clear hl hr hiss hop hop2 hT hT2 hflip hk HF2 hm hr8 HX HF hrdc h96 hs1 hn1 hmT hriss hO
  have tok1 : True := trivial
  have tok2 : True := trivial
  go_enter Tryd.func6, Tryd.ntmps6
  obtain ⟨c0, c1, c2, c3, hg0⟩ := tk4 (H0.blk (g := w.heap.size) (e := 25) (cs := tkc s1 o1 n1 e1) (List.Mem.head _))
  go_wp2_with fail
  (with_reducible refine (HIS.out _ H0.toExt).mono ?_)
  rintro e w2 ⟨v7, rfl, hS⟩
  have K2 := H0.join hS
  dsimp only [List.nil_append, List.cons_append] at K2
  clear H0 hS c0 c1 c2 c3 hg0
  obtain ⟨g4, G4⟩ : ∃ g, w.heap.size = g := ⟨_, rfl⟩
  rw [G4] at K2 ⊢
  clear G4
  obtain ⟨A7, c7, rfl, hr7, hc7⟩ := own_form (K2.owns (List.Mem.head _))
  rw [HT.out.1] at hc7 K2 ⊢
  obtain ⟨g7, hA7, -⟩ := Sep.ownSet [] K2 HMB.out undef
  subst hA7
  have hc7i : (24 : Int) ≤ (c7 : Int) := by omega
  have HC7 := hide hc7
  clear hc7
  go_wp2_with fail
  (with_reducible refine (HOP.out _ _ _ HC7.out K2.toExt hr7).mono ?_)
  rintro e w3 ⟨rfl, hx⟩
  have K3 := K2.ext hx
  clear K2 hx HOP hr7
  go_upto_region 5 with (first
    | (have zz := tok1; clear zz tok1; refine wpList_alS K3 rfl 25 rfl (tkc 0 0 0 0) (by kernel_rfl) ?_; intro w4 hz4 K4; clear hz4 K3)
    | (have zz := tok2; clear zz tok2; refine wpList_stS [] K4 rfl 25 (.tmp 9) (.tmp 45) rfl rfl (cs := tkc s1 o1 n1 e1) rfl (by kernel_rfl) rfl (tkc_one s1 o1 n1 e1) ?_; intro w5 K5; dsimp only [List.nil_append] at K5; clear K4))
  obtain ⟨g9, G9⟩ : ∃ g, w3.heap.size = g := ⟨_, rfl⟩
  rw [G9] at K5 ⊢
  clear G9
  obtain ⟨c0, c1, c2, c3, hg0⟩ := tk4 (K5.blk (g := g9) (e := 25) (cs := tkc s1 o1 n1 e1) (List.Mem.head _))
  obtain ⟨e0, e1_, e2_, e3, hg1⟩ := tk4 (K5.blk (g := g4) (e := 25) (cs := tkc s1 o1 n1 e1) (List.Mem.tail _ (List.Mem.tail _ (List.Mem.head _))))
  have KK := hide K5
  clear K5
  go_wp2_with fail
  (with_reducible refine (HIS.out _ KK.out.toExt).mono ?_)
  rintro e w6 ⟨v11, rfl, hS⟩
  have K6 := KK.out.join hS
  dsimp only [List.nil_append, List.cons_append] at K6
  clear KK hS c0 c1 c2 c3 hg0 e0 e1_ e2_ e3 hg1 HIS
  obtain ⟨A11, c11, rfl, hr11, hc11⟩ := own_form (K6.owns (List.Mem.head _))
  rw [HT.out.1] at hc11 K6 ⊢
  have hcv1 := str56 c11 56 HT.out.1 hr11
  have hcv2 := str56 c7 56 HT.out.1 (own_rdL (K6.owns (e := 5) (v := .slice (some ⟨g7, 0, none⟩) 56 c7) (xs := byt T) (List.Mem.tail _ (List.Mem.tail _ (List.Mem.head _))))).1
  generalize strOfNums T = sT at hcv1 hcv2
  obtain ⟨g7', hA7, cq, fq, hg7, K8'⟩ := Sep.ownSet [_, _] K6 HMB.out (.int .u8 y)
  simp only [Option.some.injEq, Addr.mk.injEq, and_true] at hA7
  subst hA7
  rw [HcT.out] at cq
  have K8 := hide K8'
  clear K6 K8' hr11 hc11
  have hg7c : m < 56 := hm44
  have hmc : (m : Int) < (c7 : Int) := by have := HC7.out; omega
  go_wp2_with fail
  rw [HY.out]
  have K9 := K8.out
  dsimp only [List.nil_append, List.cons_append] at K9
  rw [HS2.out] at K9
  clear K8 HS2 HY cq fq hg7 hcv1 hcv2
  have hrT2 := (own_rdL (K9.owns (e := 5) (v := .slice (some ⟨g7, 0, none⟩) 56 c7) (xs := byt T2) (List.Mem.tail _ (List.Mem.tail _ (List.Mem.head _))))).1
  (with_reducible refine (HOP2.out _ _ _ HC7.out K9.toExt hrT2).mono ?_)
  rintro e wa ⟨rfl, hx⟩
  have Ka := K9.ext hx
  clear K9 hx HOP2 hrT2
  have tok3 : True := trivial
  go_upto_region 13 with (have zz := tok3; clear zz tok3; refine wpList_stS [_] Ka rfl 25 (.tmp 9) (.tmp 99) rfl rfl (cs := tkc 0 0 0 0) rfl (by kernel_rfl) rfl (tkc_one 0 0 0 0) ?_; intro wb Kb; dsimp only [List.nil_append, List.cons_append] at Kb; clear Ka)
  have hrT2 := Rd.take_ (own_rdL (Kb.owns (e := 5) (v := .slice (some ⟨g7, 0, none⟩) 56 c7) (xs := byt T2) (List.Mem.tail _ (List.Mem.tail _ (List.Mem.head _))))).1 24
  rw [byt_take] at hrT2
  have HR7 := hide hrT2
  have KK := hide Kb
  clear Kb hrT2
  go_wp2_with fail
  (with_reducible refine (HRDC.out _ _ _ HC7.out HR7.out).mono ?_)
  rintro e wc ⟨rfl, hx⟩
  have Kc := KK.out.ext hx
  clear KK hx HRDC HR7
  have tok4 : True := trivial
  have tok5 : True := trivial
  go_upto_region 14 with (first
    | (have zz := tok4; clear zz tok4; refine wpList_alS Kc rfl 25 rfl (tkc 0 0 0 0) (by kernel_rfl) ?_; intro wd hzd Kd; clear hzd Kc)
    | (have zz := tok5; clear zz tok5; refine wpList_stS [] Kd rfl 25 (.tmp 13) (.tmp 105) rfl rfl (cs := tkc p q r s) rfl (by kernel_rfl) rfl (tkc_one p q r s) ?_; intro we Ke; dsimp only [List.nil_append] at Ke; clear Kd))
  obtain ⟨g13, G13⟩ : ∃ g, wc.heap.size = g := ⟨_, rfl⟩
  rw [G13] at Ke ⊢
  clear G13
  obtain ⟨c0, c1, c2, c3, hg0⟩ := tk4 (Ke.blk (g := g13) (e := 25) (cs := tkc p q r s) (List.Mem.head _))
  have KK := hide Ke
  clear Ke
  go_wp2_with fail
  (with_reducible refine (HRIS.out _ KK.out.toExt).mono ?_)
  rintro e wf ⟨v15, rfl, hS⟩
  have Kf := KK.out.join hS
  dsimp only [List.nil_append, List.cons_append] at Kf
  clear KK hS c0 c1 c2 c3 hg0 HRIS
  obtain ⟨A3, cc3, rfl, hr3, hc3⟩ := own_form (Kf.owns (List.Mem.head _))
  obtain ⟨c0, c1, c2, c3, hg0⟩ := tk4 (Kf.blk (g := g13) (e := 25) (cs := tkc p q r s) (List.Mem.tail _ (List.Mem.head _)))
  obtain ⟨e0, e1_, e2_, e3, hg1⟩ := tk4 (Kf.blk (g := g9) (e := 25) (cs := tkc 0 0 0 0) (List.Mem.tail _ (List.Mem.tail _ (List.Mem.tail _ (List.Mem.head _)))))
  have KK := hide Kf.toExt
  clear Kf hr3
  go_wp2_with fail
  (with_reducible refine (tshown_any _ (HL.out.ext KK.out)).mono ?_)
  rintro e wg ⟨rfl, hxe⟩
  go_wp2_with fail
  go_ret
  exact ⟨rfl, KK.out.trans hxe⟩
set_option maxRecDepth 100000 in
theorem guarded_law (w : World) (hl : Laid w) (v0 : Value) (h0 : LfOk Tryd.prog w (.slice 5) v0) (v1 : Value) (h1 : ∃ cs, v1 = .agg cs ∧ Lvs Tryd.prog w [.int .u32, .int .u32, .int .u64, .int .u64] cs.toList) (b : Int) (hbb : 0 ≤ b ∧ b < 65536) : Calls Tryd.prog 6 #[v0, v1, .int .u16 b] w fun e w' => e = .returned (.bool true) ∧ Ext w w' := by
  obtain ⟨A, k, c, rfl, hr, hb, hc, hm⟩ := bytes_arg h0
  obtain ⟨s1, o1, n1, e1, rfl, ht⟩ := tickA h1
  clear h0 h1
  have HL := hide hl
  have H0 := box_tk w s1 o1 n1 e1
  have HX := hide H0.toExt
  obtain ⟨c0, c1, c2, c3, hg0⟩ := tk4 (H0.blk (g := w.heap.size) (e := 25) (cs := tkc s1 o1 n1 e1) (List.Mem.head _))
  clear H0
  by_cases hk1 : k.length < 1
  · have d1 : (k.length : Int) < 1 := by omega
    clear hl hr hb hk1
    go_enter Tryd.func6, Tryd.ntmps6
    go_wp2_with fail
    (with_reducible refine (tshown_any _ (HL.out.ext HX.out)).mono ?_)
    rintro e w1 ⟨rfl, hx⟩
    go_wp2_with fail
    go_ret
    exact ⟨rfl, HX.out.trans hx⟩
  · have d1 : ¬ (k.length : Int) < 1 := by omega
    by_cases hk2 : 64 < k.length
    · have d2 : (64 : Int) < (k.length : Int) := by omega
      clear hl hr hb hk1 hk2
      go_enter Tryd.func6, Tryd.ntmps6
      go_wp2_with fail
      (with_reducible refine (tshown_any _ (HL.out.ext HX.out)).mono ?_)
      rintro e w1 ⟨rfl, hx⟩
      go_wp2_with fail
      go_ret
      exact ⟨rfl, HX.out.trans hx⟩
    · have d2 : ¬ (64 : Int) < (k.length : Int) := by omega
      by_cases hs4 : (4096 : Int) ≤ s1
      · clear hl hr hb hk1 hk2
        go_enter Tryd.func6, Tryd.ntmps6
        go_wp2_with fail
        (with_reducible refine (tshown_any _ (HL.out.ext HX.out)).mono ?_)
        rintro e w1 ⟨rfl, hx⟩
        go_wp2_with fail
        go_ret
        exact ⟨rfl, HX.out.trans hx⟩
      by_cases hn0 : n1 = 0
      · have dn : (n1 == 0) = true := by rw [hn0]; rfl
        clear hl hr hb hk1 hk2 ht
        have hn0' := hide hn0
        clear hn0
        go_enter Tryd.func6, Tryd.ntmps6
        go_wp2_with fail
        (with_reducible refine (tshown_any _ (HL.out.ext HX.out)).mono ?_)
        rintro e w1 ⟨rfl, hx⟩
        go_wp2_with fail
        go_ret
        exact ⟨rfl, HX.out.trans hx⟩
      · clear c0 c1 c2 c3 hg0 HX d1 d2
        have hk : keyOk k := ⟨by omega, by omega⟩
        have hz : s1 < 4096 ∧ n1 ≠ 0 := ⟨by omega, hn0⟩
        have hrl := recT_len s1 o1 n1 e1
        have hTl : (bloB k (recT s1 o1 n1 e1)).length = 56 := bloB_len hrl
        have hTB : isB (bloB k (recT s1 o1 n1 e1)) := bloB_isB (recT_isB _ _ _ _)
        obtain ⟨N, hN⟩ : ∃ N : Nat, b.tmod 448 = (N : Int) := ⟨(b % 448).toNat, by rw [Int.tmod_eq_emod_of_nonneg hbb.1]; omega⟩
        have hN2 : N < 448 := by rw [Int.tmod_eq_emod_of_nonneg hbb.1] at hN; omega
        obtain ⟨G1, G2⟩ := guardedT hk (recT_isB s1 o1 n1 e1) hrl (decT_rec ht hz.1 hz.2).1 hN2
        have hiss := fun (x : World) (h : Ext w x) => tissue_any k A c s1 o1 n1 e1 x (hl.ext h) (hr.ext h) hb hc (by omega) ht
        rw [show issTB k s1 o1 n1 e1 = bloB k (recT s1 o1 n1 e1) by unfold issTB; rw [if_pos hk, if_pos hz], show issTE k s1 n1 = 0 by unfold issTE encTE; rw [if_pos hk, if_pos hz]] at hiss
        have hopen := fun (T : List Int) (hTl : T.length = 56) (hTB : isB T) (A7 : Option Addr) (c7 : Nat) (x : World) (hc7 : 56 ≤ c7) (h : Ext w x) (hR : Rd x A7 (byt T)) => topen_any k T A c A7 c7 x (hl.ext h) (hr.ext h) hb hc (by omega) hR hTB (by omega) (by omega)
        have hop := hopen (bloB k (recT s1 o1 n1 e1)) hTl hTB
        rw [(opT_issue hk ht hz.1 hz.2).1, (opT_issue hk ht hz.1 hz.2).2, hTl] at hop
        have hflip : ∀ (h : N / 8 < (bloB k (recT s1 o1 n1 e1)).length), (bloB k (recT s1 o1 n1 e1)).set (N / 8) (bits .xor .u8 ((bloB k (recT s1 o1 n1 e1))[N / 8]) (2 ^ (N % 8) % 256)) = flipB (bloB k (recT s1 o1 n1 e1)) N := by
          intro h
          unfold flipB
          rw [List.getD_eq_getElem?_getD, List.getElem?_eq_getElem h]; rfl
        have hFl := (flipB_len (bloB k (recT s1 o1 n1 e1)) N).trans hTl
        have hFB := flipB_isB hTB N
        have hop2 := hopen (flipB (bloB k (recT s1 o1 n1 e1)) N) hFl hFB
        rw [hFl] at hop2
        generalize hTg : bloB k (recT s1 o1 n1 e1) = T at *
        generalize hT2g : flipB T N = T2 at *
        have ht24 : (T2.take 24).length = 24 := by rw [List.length_take, hFl]; rfl
        have htB := isB_take hFB 24
        have hrdc := fun (A7 : Option Addr) (c7 : Nat) (x : World) (hc7 : 56 ≤ c7) (hR : Rd x A7 (byt (T2.take 24))) => rtdec_any (T2.take 24) A7 c7 x hR htB (by omega) (by omega)
        rw [ht24] at hrdc
        have hbad : opTE k T2 ≠ 0 → opTV k T2 = (0, 0, 0, 0) := fun h => by unfold opTV; rw [if_neg h]
        rcases decTE_two (T2.take 24) with hd | hd
        rotate_left
        · obtain ⟨h96, h11⟩ := G1 (by rw [hd]; decide)
          rw [hbad (by rw [h11]; decide), h11] at hop2
          rw [show decTV (T2.take 24) = (0, 0, 0, 0) by unfold decTV; rw [if_neg (by rw [hd]; decide)], hd] at hrdc
          exact guarded_a k T T2 [] A c s1 o1 n1 e1 0 0 0 0 b N w hl hr hc hk hz.1 hz.2 ⟨hTl, hTB⟩ ⟨hFl, hFB⟩ hflip hbb hN hN2 hiss hop hop2 hrdc h96
        · obtain ⟨Gs, Gn⟩ := G2 hd
          obtain ⟨p, q, r, s, hV, hp, hq, hrec⟩ := recT_of htB hd
          rw [hV, hd] at hrdc
          have hriss := fun (x : World) (h : Ext w x) => rtissue_any k A c p q r s x (hr.ext h) hb hc (by omega) hp
          rw [show issTB k p q r s = bloB k (T2.take 24) by unfold issTB; rw [if_pos hk, if_pos hq, hrec], show issTE k p r = 0 by unfold issTE encTE; rw [if_pos hk, if_pos hq]] at hriss
          have hOB : isB (bloB k (T2.take 24)) := bloB_isB htB
          by_cases h96 : N < 192
          · by_cases hO : bloB k (T2.take 24) = T2
            · have h0 := Gs h96 hO
              rw [show opTV k T2 = (p, q, r, s) by unfold opTV; rw [if_pos h0, hV], h0] at hop2
              exact guarded_b k T T2 _ A c s1 o1 n1 e1 p q r s b N w hl hr hc hk hz.1 hz.2 ⟨hTl, hTB⟩ ⟨hFl, hFB⟩ hflip hbb hN hN2 hiss hop hop2 hrdc hriss hOB h96 hO
            · have h0 := Gn (fun _ => hO)
              rw [hbad (by rw [h0]; decide), h0] at hop2
              exact guarded_c k T T2 _ A c s1 o1 n1 e1 p q r s b N w hl hr hc hk hz.1 hz.2 ⟨hTl, hTB⟩ ⟨hFl, hFB⟩ hflip hbb hN hN2 hiss hop hop2 hrdc hriss hOB h96 hO
          · have h0 := Gn (fun h => absurd h h96)
            rw [hbad (by rw [h0]; decide), h0] at hop2
            exact guarded_d k T T2 _ A c s1 o1 n1 e1 p q r s b N w hl hr hc hk hz.1 hz.2 ⟨hTl, hTB⟩ ⟨hFl, hFB⟩ hflip hbb hN hN2 hiss hop hop2 hrdc hriss hOB h96
end Go.Proofs.YtamlngdjbmndlaaDoor
