/- Seats side by side: Choices, by the program. -/
import Derived.Test.YtkhinagagncblaaDoorA11
import Derived.Test.YtkhinagagncblaaDoorPush
namespace Go.Proofs.YtkhinagagncblaaDoor
open Go.RowKit Go.Gr Go.Ad
set_option linter.unusedVariables false
set_option linter.unusedSimpArgs false
attribute [local go_sem] Oper.semAt_some rdOp rdAt rdUpon Cls forall_fr
theorem infoI : (Tryd.prog.info? 3).map (fun i => (i.zero, i.size, i.bytes)) = some (some (.int .i64 0), 1, 8) := by kernel_rfl
theorem cho_stops (B : Option Addr) (bc b1 b2 : Nat) (l : List Run) (n : Nat) (h1n : 1 ≤ n) (hn64 : n ≤ 64) (S : Nat → Prop) (hsm : Small l) (hl : l.length ≤ 2000) (xs : List Cho) (hxs : xs.map Cho.t = chs l n) (w1 : World) (hM : ChoMem w1 B bc l n b1 b2 S) (hS : ∀ k, S k → k < w1.heap.size) (m : Nat) (hm : 1 ≤ m) :
    SeqStopsK Fence.wide m Tryd.prog 50 #[.pointer (some ⟨b1, 0, none⟩), .pointer (some ⟨b2, 0, none⟩)] encC (KpT S 47) (fun ys => ys = xs) (fun pre => pre <+: xs) xs.length w1 := fun lo J Jx W hW hJ _ hY h0 => by
  have hM' : ChoMem W B bc l n b1 b2 S := by
    refine ⟨fun i r hr => ?_, hM.cap, (hW.cell (p := ⟨b1, 0, none⟩) (cell_lt hM.one)).trans hM.one, (hW.cell (p := ⟨b2, 0, none⟩) (cell_lt hM.two)).trans hM.two, hM.s2⟩
    obtain ⟨g, e, ⟨cs, fr, hg⟩, h5⟩ := hM.row i r hr
    have hk := hW.block g (Array.getElem?_eq_some_iff.1 hg).1
    exact ⟨g, e, ⟨cs, fr, hk.trans hg⟩, at5_kept h5 hk⟩
  refine (cho1_in m hm lo b1 b2 l n h1n hn64 B bc S hsm hl xs hxs J Jx W hM' hJ (fun k hk => Nat.lt_of_lt_of_le (hS k hk) hW.size) hY h0).mono ?_
  rintro e W' ⟨hv, h | h⟩
  · exact ⟨hv, .inl ⟨xs, rfl, h⟩⟩
  · exact ⟨hv, .inr h⟩
/-- the memory of a list of runs of the call's own, and of the iterator's boxes -/
theorem choMem {w0 w : World} {L : List As} {v' : Value} {l : List Run} {n b1 b2 : Nat} {B : Option Addr} {bc : Nat} (h : Sep No w0 w L) (h1 : As.ownM 47 3 (.slice B l.length bc) (runV l) ∈ L)
    (h2 : As.blk b1 30 [.slice B l.length bc] ∈ L) (h3 : As.blk b2 3 [.int .i64 (n : Nat)] ∈ L) : ChoMem w B bc l n b1 b2 (At b2) := by
  have hO := h.ownsM h1
  obtain ⟨B', c', e, _, hc', _⟩ := hO.form
  rw [runV_len] at e hc'
  simp only [Value.slice.injEq] at e
  obtain ⟨rfl, _, rfl⟩ := e
  refine ⟨fun i r hr => ?_, hc', (h.blk h2).cell 0, (h.blk h3).cell 0, rfl⟩
  obtain ⟨g, c, e, _, h5⟩ := hO.at5 (by decide) (runV_at hr)
  simp only [Value.slice.injEq] at e
  obtain ⟨rfl, _, rfl⟩ := e
  refine ⟨g, rfl, ?_, h5⟩
  rcases hO.row.2 with ⟨hv, _⟩ | ⟨g', cap, cur, hv, _, hh, _⟩
  · cases hv
  · simp only [Value.slice.injEq, Option.some.injEq, Addr.mk.injEq] at hv
    obtain ⟨⟨rfl, _⟩, _⟩ := hv
    exact ⟨_, _, hh⟩
theorem runs_small {v : Vn} (hok : VnOk v) {f : List Bool} (hfl : f.length = sumS v.secs) (s : Int) : Small (runsOf v f s) := by
  intro r hr
  unfold runsOf at hr
  split at hr
  · rename_i sc hs
    have ho := hok.sec sc (List.mem_of_getElem? hs)
    have hrl : sc.rowsN.length = sc.rows.length := by unfold Sc.rowsN; rw [List.length_map]
    have hsum := sc_sum ho
    have hfew := ho.few
    have hf := fst0_le hok (j := s.toNat)
    have h8 := hok.few
    obtain ⟨q, n, hn, h1, h2, h3⟩ := sec_row sc.rowsN 0 (fst0 v.secs s.toNat) (by
      rw [hfl]
      have h1 : v.secs = v.secs.take s.toNat ++ v.secs.drop s.toNat := (List.take_append_drop _ _).symm
      have hj : s.toNat < v.secs.length := (List.getElem?_eq_some_iff.1 hs).1
      have h2 : v.secs.drop s.toNat = sc :: v.secs.drop (s.toNat + 1) := by
        rw [List.drop_eq_getElem_cons hj]
        rw [List.getElem?_eq_getElem hj] at hs
        rw [Option.some.inj hs]
      have h3 : sumS v.secs = fst0 v.secs s.toNat + (sc.sum + sumS (v.secs.drop (s.toNat + 1))) := by
        conv => lhs; rw [h1, sumS_append, h2]
        simp [sumS, fst0]
      unfold Sc.sum at h3
      omega) hr
    have hq : q < sc.rowsN.length := (List.getElem?_eq_some_iff.1 hn).1
    have h4 := sum_take_le sc.rowsN q
    have hn64 : n ≤ 64 := by
      obtain ⟨x, hx, rfl⟩ := List.mem_map.1 (List.mem_of_getElem? hn)
      have := ho.row x hx; omega
    unfold Sc.sum at hsum
    exact ⟨by omega, by omega, by omega⟩
  · cases hr
/-- what is wrong with a question for so many seats -/
def cE (v : Vn) (m : Nat) (s n : Int) : Int := if qE v m s ≠ 0 then qE v m s else if outB n 1 8 = true then 7 else 0
/-- the first seats of the choices -/
def cL (v : Vn) (f : List Bool) (s n : Int) : List Int := (chs (runsOf v f s) n.toNat).map fun x => ((x.1.first + x.2.1 : Nat) : Int)
def cR (v : Vn) (f : List Bool) (s n : Int) : List Int := if cE v f.length s n = 0 then cL v f s n else []
def outs (l : List Cho) : List Int := l.map fun x => ((x.r.first + x.k : Nat) : Int)
theorem outs_snoc (l : List Cho) (x : Cho) : i64s (outs (l ++ [x])) = i64s (outs l) ++ [.int .i64 ((x.r.first + x.k : Nat) : Int)] := by simp [outs, i64s]
theorem outs_all {l : List Run} {n : Nat} {xs : List Cho} (h : xs.map Cho.t = chs l n) : outs xs = (chs l n).map fun x => ((x.1.first + x.2.1 : Nat) : Int) := by rw [← h, List.map_map]; rfl
theorem chs_few (l : List Run) (n : Nat) (hsm : Small l) (hl : l.length ≤ 2000) : (chs l n).length ≤ 40010000 := by
  have key : ∀ l : List Run, Small l → (chs l n).length ≤ l.length * 20001 := by
    intro l
    induction l with
    | nil => intro _; simp [chs]
    | cons r l ih =>
      intro h
      have h1 := ih fun x hx => h x (by simp [hx])
      have h2 := (h r (by simp)).2.2
      have h3 : chs (r :: l) n = chR n r ++ chs l n := by simp [chs]
      rw [h3, List.length_append, chR_len, List.length_cons, Nat.add_mul]; omega
  have := key l hsm
  omega
theorem blk5 {w : World} {g : Nat} {e : TypeId} {a b c d f : Value} (h : Blk w g e [a, b, c, d, f]) : w.cell? ⟨g, 0, none⟩ = some a ∧ w.cell? ⟨g, 1, none⟩ = some b ∧ w.cell? ⟨g, 2, none⟩ = some c ∧ w.cell? ⟨g, 3, none⟩ = some d ∧ w.cell? ⟨g, 4, none⟩ = some f ∧ g < w.heap.size :=
  ⟨h.cell 0, h.cell 1, h.cell 2, h.cell 3, h.cell 4, h.lt⟩
theorem perm_ch {a b c d e f : As} : [a, b, c, d, e, f].Perm [a, e, b, c, d, f] :=
  List.Perm.cons _ (((List.Perm.refl [b, c, d, e, f]).trans (by simpa using (List.perm_middle (l₁ := [b, c, d]) (a := e) (l₂ := [f])))))
set_option maxRecDepth 100000 in
set_option maxHeartbeats 8000000 in
theorem ad_Choices (v : Vn) (A : Option Addr) (c : Nat) (f : List Bool) (F : Option Addr) (d : Nat) (s n : Int) (w : World) (h : Secs w A v.secs) (hc : v.secs.length ≤ c) (hw : VnW v)
    (hF : Rd w F (bls f)) (hd : f.length ≤ d) :
    Calls Tryd.prog 15 #[.agg #[.int .i64 v.sh, .int .i64 v.ttl, .int .i64 v.ses, .slice A v.secs.length c], .slice F f.length d, .int .i64 s, .int .i64 n] w fun e w' =>
      ∃ v', e = .returned (.tuple #[v', .int .i64 (cE v f.length s n)]) ∧ Sep No w w' [As.own 3 v' (i64s (cR v f s n))] := by
  obtain ⟨i0, ki, kz0, kz1, kz2⟩ := info_parts infoI
  have HQ := hide (fun (y : World) (k : Ext w y) => ad_check v A c F f.length d s y (h.ext k) hc hw)
  have HR := hide (fun (y : World) (k : Ext w y) (hq : qE v f.length s = 0) => ad_runs' v A c f F d s y (h.ext k) hc hw (hF.ext k) hd hq)
  clear h hc hw hF hd
  have K0 := (Sep.refl No w).add 24 [.int .i64 v.sh, .int .i64 v.ttl, .int .i64 v.ses, .slice A v.secs.length c]
  refine (callsIn_wide (n := 6)).1 ?_
  refine callsIn_of_wp_marks Tryd.func15 rfl trivial ?_ rfl
  simp only [Tryd.ntmps15, List.size_toArray, List.length_cons, List.length_nil, Nat.reduceAdd, Nat.reduceSub, Array.replicate_succ, Array.replicate_zero, List.push_toArray, List.append_toArray, List.nil_append, List.cons_append]
  have hf29 : Fence.wide.fn 29 := trivial
  have hf30 : Fence.wide.fn 30 := trivial
  have hf35 : Fence.wide.fn 35 := trivial
  have hf36 : Fence.wide.fn 36 := trivial
  gi_wp2_with fail
  refine (callsIn_wide.2 (HQ.out _ K0.toExt)).mono ?_
  rintro e w1 ⟨rfl, hx⟩
  have K1 := hide (K0.ext hx)
  clear K0 hx HQ
  obtain ⟨c0, c1, c2, c3, cz⟩ := blk4 (K1.out.blk (List.Mem.head _))
  by_cases hq : qE v f.length s = 0
  rotate_left
  · have HE : Hid (cE v f.length s n = qE v f.length s) := hide (by unfold cE; rw [if_pos hq])
    have HL : Hid (cR v f s n = []) := hide (by unfold cR; rw [HE.out, if_neg hq])
    have e1 : (qE v f.length s != 0) = true := bne_iff_ne.2 hq
    clear hq HR
    gi_wp2_with fail
    refine ⟨_, results_tmp2 rfl _ _ _, ?_⟩
    refine ⟨.slice none 0 0, by rw [HE.out]; rfl, ?_⟩
    rw [HL.out]; exact (K1.out.tail).nilO _
  have HRR := hide (fun (y : World) (k : Ext w y) => HR.out y k hq)
  have HFEW := hide (runsOf_few (qE_zero hq).1 f s)
  have HSML := hide (runs_small (qE_zero hq).1 (qE_zero hq).2.2.2.1 s)
  clear HR
  rw [hq]
  gi_wp2_with fail
  refine (callsIn_wide.2 (asked_any n w1)).mono ?_
  rintro e w2 ⟨rfl, rfl⟩
  cases ho : outB n 1 8
  rotate_left
  · have HE : Hid (cE v f.length s n = 7) := hide (by unfold cE; rw [if_neg (by simpa using hq), if_pos ho])
    have HL : Hid (cR v f s n = []) := hide (by unfold cR; rw [HE.out]; rfl)
    clear hq HRR ho
    gi_wp2_with fail
    refine ⟨_, results_tmp2 rfl _ _ _, ?_⟩
    refine ⟨.slice none 0 0, by rw [HE.out]; rfl, ?_⟩
    rw [HL.out]; exact (K1.out.tail).nilO _
  have HE : Hid (cE v f.length s n = 0) := hide (by unfold cE; rw [if_neg (by simpa using hq), if_neg (by rw [ho]; simp)])
  have HL : Hid (cR v f s n = cL v f s n) := hide (by unfold cR; rw [HE.out]; rfl)
  obtain ⟨hn1, hn8⟩ := outB_false ho
  obtain ⟨n, rfl⟩ : ∃ k : Nat, n = k := ⟨n.toNat, by omega⟩
  have hn1' : 1 ≤ n := by omega
  have hn8' : n ≤ 8 := by omega
  have hcl : cL v f s (n : Int) = (chs (runsOf v f s) n).map fun x => ((x.1.first + x.2.1 : Nat) : Int) := by unfold cL; rw [Int.toNat_natCast]
  rw [hcl] at HL
  clear hq ho hcl hn1 hn8
  have K2 := (K1.out.add 36 [.slice none 0 0])
  gi_wp2_with fail
  refine (callsIn_wide.2 (HRR.out _ K2.toExt)).mono ?_
  rintro e w3 ⟨v', rfl, hS⟩
  have K3 := K2.joinW hS
  generalize w2.heap.size = g6 at K3 ⊢
  clear HRR hS c0 c1 c2 c3 cz K2 K1
  obtain ⟨B, bc, rfl, hbc⟩ := nilM_form K3
  rw [runV_len] at K3 hbc ⊢
  obtain ⟨l, hl⟩ : ∃ l, runsOf v f s = l := ⟨_, rfl⟩
  rw [hl] at K3 hbc HFEW HSML HL
  rw [hl]
  clear hl
  have K3' := hide K3
  clear K3
  gi_wp2_with fail
  refine (choices_in Fence.wide _ trivial rfl _ _ _ _ _).mono ?_
  rintro e w4 ⟨rfl, rfl⟩
  have K4 := (K3'.out.add2 30 3 [.slice B l.length bc] [.int .i64 (n : Nat)])
  clear K3'
  generalize World.alloc _ _ = w4 at K4 ⊢
  generalize w3.heap.size = g7 at K4 ⊢
  dsimp only [List.nil_append, List.cons_append] at K4
  have KK := hide (((K4.nilO 3).perm (L' := [As.own 3 (.slice none 0 0) [], As.blk g6 36 [.slice none 0 0], As.blk (g7 + 1) 3 [.int .i64 (n : Nat)], As.blk g7 30 [.slice B l.length bc], As.ownM 47 3 (.slice B l.length bc) (runV l), As.blk w.heap.size 24 [.int .i64 v.sh, .int .i64 v.ttl, .int .i64 v.ses, .slice A v.secs.length c]]) perm_ch))
  clear K4
  gi_wp2_with fail
  obtain ⟨xs, hxs⟩ := choices_ex HSML.out n
  have HXS := hide hxs
  have hxl : xs.length ≤ 40010000 := by
    have h1 := chs_few l n HSML.out HFEW.out
    rw [← hxs, List.length_map] at h1; exact h1
  have HXL := hide hxl
  clear hxs hxl
  refine wpIn_rangeFunc_ownH rfl (by decide) (gf := 50) (lb := #[.pointer (some ⟨g7, 0, none⟩), .pointer (some ⟨g7 + 1, 0, none⟩)]) rfl trivial (enters_of Tryd.func50 (by kernel_rfl) rfl)
    (cho_stops B bc g7 (g7 + 1) l n hn1' (by omega) (At (g7 + 1)) HSML.out HFEW.out xs HXS.out w4 (choMem (v' := .slice none 0 0) KK.out (List.Mem.tail _ (List.Mem.tail _ (List.Mem.tail _ (List.Mem.tail _ (List.Mem.head _))))) (List.Mem.tail _ (List.Mem.tail _ (List.Mem.tail _ (List.Mem.head _)))) (List.Mem.tail _ (List.Mem.tail _ (List.Mem.head _)))) (fun k hk => by cases hk; exact (KK.out.blk (g := g7 + 1) (e := 3) (List.Mem.tail _ (List.Mem.tail _ (List.Mem.head _)))).lt) 5 (by decide)) kpT_t (kpT_b (fun k hk => by cases hk; exact (KK.out.blk (g := g7 + 1) (e := 3) (List.Mem.tail _ (List.Mem.tail _ (List.Mem.head _)))).lt)) (Below.refl _ _) (fun _ => rfl)
    (fun pre W => ∃ vo, Sep No w W ([As.own 3 vo (i64s (outs pre)), As.blk g6 36 [vo]] ++ [As.blk (g7 + 1) 3 [.int .i64 (n : Nat)]]))
    (fun _ _ _ => False)
    (fun s X Y row hs hg hr => by
      obtain ⟨vo, hs⟩ := hs
      exact ⟨vo, sep_turn hs (by intro A hA; simp only [List.cons_append, List.nil_append, List.mem_cons, List.not_mem_nil, or_false] at hA; rcases hA with rfl | rfl | rfl <;> first | exact celB _ _ _ | exact celO _ _ _) hg (fun r e => ⟨Nat.le_trans KK.out.le (hr r e).1, (hr r e).2⟩)⟩)
    (fun _ _ _ _ _ hs _ _ => hs)
    ⟨_, KK.out.sub (List.Sublist.cons_cons _ (List.Sublist.cons_cons _ (List.Sublist.cons_cons _ (List.nil_sublist _))))⟩
    (fun x a' W => ∃ Bx, Blk W Bx 66 (choC x.r x.k x.b) ∧ a' = { tmps := #[.agg #[.int .i64 v.sh, .int .i64 v.ttl, .int .i64 v.ses, .slice A v.secs.length c], .slice F f.length d, .int .i64 s, .int .i64 n, .pointer (some ⟨w.heap.size, 0, none⟩), undef, undef, undef, .slice none 0 0, .int .i64 0, .int .i64 0, .pointer (some ⟨g6, 0, none⟩), .pointer (some ⟨Bx, 0, none⟩), .agg #[.int .i64 v.sh, .int .i64 v.ttl, .int .i64 v.ses, .slice A v.secs.length c], .slice F f.length d, .int .i64 s, .int .i64 0, .int .i64 0, .bool false, undef, .int .i64 n, .bool true, .bool false, .agg #[.int .i64 v.sh, .int .i64 v.ttl, .int .i64 v.ses, .slice A v.secs.length c], .slice F f.length d, .int .i64 s, .slice B l.length bc, .int .i64 n, .func (.func 50) #[] #[.pointer (some ⟨g7, 0, none⟩), .pointer (some ⟨g7 + 1, 0, none⟩)], .agg #[.int .i64 (x.r.row : Nat), .int .i64 (x.r.first : Nat), .int .i64 (x.r.many : Nat), .int .i64 (x.k : Nat), .int .i64 (x.b : Nat)], undef, undef, undef, undef, undef, undef, undef, undef, undef, undef], defers := [] })
    (fun x a' _ X Y row hs hg hr => by obtain ⟨Bx, h1, h2⟩ := hs; exact ⟨Bx, blk_turn h1 hg (fun r e => (hr r e).2), h2⟩)
    ?assign ?body ?done ?stop
  case assign =>
    rintro l2 pre x W K ⟨vo, hI⟩ hK
    simp only [encC]
    gi_wp2
    exact hK _ _ ((KeepsOthers.alloc _ _).from _) (kpT_ext ((Ext.refl W).alloc _) (fun k hk => by cases hk; exact (hI.blk (g := g7 + 1) (e := 3) (List.Mem.tail _ (List.Mem.tail _ (List.Mem.head _)))).lt)) ⟨vo, hI.ext ((Ext.refl W).alloc _)⟩ ⟨W.heap.size, Blk.new W _ _, rfl⟩
  case body =>
    rintro l2 pre x a' W hl _ ⟨vo, hI⟩ ⟨Bx, hB, rfl⟩ hlt
    obtain ⟨r0, r1, r2, r3, r4, rz⟩ := blk5 hB
    have HI := hide hI
    have HB0 := hide (hI.sub (List.sublist_append_left _ _)).rebase
    have p1 := (hI.blk (g := g6) (e := 36) (List.Mem.tail _ (List.Mem.head _))).cell 0
    have pz := (hI.blk (g := g6) (e := 36) (List.Mem.tail _ (List.Mem.head _))).lt
    simp only [List.getElem?_cons_zero] at p1
    have HON := hide (outs_snoc pre x)
    have hf1 := x.first
    have hk1 := x.kk
    have HLEN : Hid ((i64s (outs pre)).length < 1000000000) := hide (by rw [i64s_len]; unfold outs; rw [List.length_map]; have := HXL.out; omega)
    have tok1 : True := trivial
    clear hI
    refine wpIn_block ?_
    refine wpIn_round (fun a w h => h) rfl ?_
    go_wp2_with (first
      | (have zz := tok1; clear zz tok1; refine wpList_pushS [] HB0.out rfl (.tmp 30) (.tmp 37) 36 rfl i0 _ 8 Tryd.underlying36 ki kz0 kz1 kz2 rfl rfl rfl rfl HLEN.out (by decide) ?_; intro v7 w7 K7; dsimp only [List.nil_append, List.cons_append] at K7; obtain ⟨B7, c7, hv7, _⟩ := (K7.owns (e := 3) (List.Mem.head _)).form; subst hv7)
      | (refine wpList_st1S [_] K7 rfl 36 (.tmp 11) (.tmp 38) rfl rfl rfl (by kernel_rfl) Nat.zero_lt_one rfl ?_; intro w8 K8; dsimp only [List.nil_append, List.cons_append, List.set] at K8))
    clear r0 r1 r2 r3 r4 rz p1 pz
    have K9 : Sep (Fp [As.own 3 vo (i64s (outs pre)), As.blk g6 36 [vo]]) W w8 [As.own 3 (.slice B7 (i64s (outs pre) ++ [Value.int .i64 ((x.r.first : Int) + (x.k : Int))]).length c7) (i64s (outs pre) ++ [.int .i64 ((x.r.first : Int) + (x.k : Int))]), As.blk g6 36 [.slice B7 (i64s (outs pre) ++ [Value.int .i64 ((x.r.first : Int) + (x.k : Int))]).length c7]] := K8
    obtain ⟨h1, h2, h3⟩ := body_post (B := w4.heap.size) (t := 47) (S := At (g7 + 1)) HI.out K9 (by intro A hA; simp only [List.mem_cons, List.not_mem_nil, or_false] at hA; rcases hA with rfl | rfl; exact typO _ _ _ (by decide); exact typB _ _ _ (by decide)) (fun k hk => ⟨_, List.Mem.head _, hk⟩)
    refine ⟨h1, h2, .slice B7 (i64s (outs pre) ++ [Value.int .i64 ((x.r.first : Int) + (x.k : Int))]).length c7, ?_⟩
    rw [HON.out, Int.natCast_add]
    exact h3
  case done =>
    rintro D ys W hD rfl ⟨vo, hI⟩ hK
    have p1 := (hI.blk (g := g6) (e := 36) (List.Mem.tail _ (List.Mem.head _))).cell 0
    simp only [List.getElem?_cons_zero] at p1
    have HI := hide hI
    have HK := hide hK
    clear hI hK
    gi_wp2
    have K6 := sep_turn HI.out (by intro A hA; simp only [List.cons_append, List.nil_append, List.mem_cons, List.not_mem_nil, or_false] at hA; rcases hA with rfl | rfl | rfl <;> first | exact celB _ _ _ | exact celO _ _ _) (grownBy_putObj' _ D (.deferred none)) (fun r e => by cases e; exact ⟨Nat.le_trans KK.out.le hD, _, HK.out, rfl⟩)
    refine ⟨by simp, .inl ⟨_, _, rfl, run_takeDeferred HK.out, ?_⟩⟩
    refine ⟨_, results_tmp2 rfl _ _ _, vo, ?_, ?_⟩
    · rw [HE.out]; rfl
    · rw [HL.out, ← outs_all HXS.out]
      exact K6.sub (List.Sublist.cons_cons _ (List.nil_sublist _))
  case stop =>
    rintro D c pre W _ _ h _
    exact h.elim
end Go.Proofs.YtkhinagagncblaaDoor
