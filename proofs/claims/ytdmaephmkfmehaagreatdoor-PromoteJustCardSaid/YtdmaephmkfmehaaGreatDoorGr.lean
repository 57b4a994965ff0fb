/- Texts put together: Y0 Y1 Y2. -/
import Derived.Test.YtdmaephmkfmehaaGreatDoorGp
import Derived.Test.YtdmaephmkfmehaaGreatDoorGi
import Derived.Test.YtdmaephmkfmehaaGreatDoorGm
import Derived.Test.YtdmaephmkfmehaaGreatDoorGb
import Derived.Deep.CutBlock
import Derived.Deep.DeepCutAuto
namespace Go.Proofs.YtdmaephmkfmehaaGreatDoor
open Go.RowKit Go.Gr Go.Hp Go.Ad Go.Wl Go.Pm
set_option linter.unusedVariables false
set_option linter.unusedSimpArgs false
attribute [local go_sem] rdOp rdAt rdUpon Cls forall_fr
/-- the cells of the reference's lists -/
abbrev lsC (A B : Option Addr) (n c m d : Nat) : List Value := [.slice A n c, .slice B m d]
theorem lsC_one (A B : Option Addr) (n c m d : Nat) : ∀ u ∈ lsC A B n c m d, u.oneCell' = true := by
  intro u hu
  simp only [lsC, List.mem_cons, List.not_mem_nil, or_false] at hu
  rcases hu with rfl | rfl <;> rfl
/-- what house answers -/
def HousR (w : World) (v : Vn) (rows : List (List Int)) (now : Int) (e : Ending) (w' : World) : Prop :=
  Ext w w' ∧ ((opE v rows now = 0 ∧ ∃ (A' B' : Option Addr) (c' d' : Nat) (vs' : List Value), e = .returned (.tuple #[.agg (lsC A' B' (loadS (qs v) rows).length c' (loadS (qs v) rows).length d').toArray, .int .i64 0]) ∧ Sep No w w' [AsRf A' B' vs' (loadS (qs v) rows)]) ∨
    (opE v rows now ≠ 0 ∧ ∃ (A' B' : Option Addr) (n c' m d' : Nat), e = .returned (.tuple #[.agg (lsC A' B' n c' m d').toArray, .int .i64 (opE v rows now)])))
theorem housR_bad {w w' : World} {v : Vn} {rows : List (List Int)} {now : Int} {e : Ending} {k : Int} {A' B' : Option Addr} {n c' m d' : Nat} (h : opE v rows now = k) (hk : k ≠ 0) (hx : Ext w w') (he : e = .returned (.tuple #[.agg (lsC A' B' n c' m d').toArray, .int .i64 k])) : HousR w v rows now e w' :=
  ⟨hx, .inr ⟨by rw [h]; exact hk, A', B', n, c', m, d', by rw [h]; exact he⟩⟩
theorem loadS_len {v : Vn} {rows : List (List Int)} (h : (loadE (qs v) rows).2 = 0) : (loadS (qs v) rows).length = (qs v).length ∧ rows.length = (qs v).length := by
  have h1 : limE (qs v) = 0 := by
    by_cases e : limE (qs v) = 0
    · exact e
    · rw [loadE_bad e] at h; exact absurd h e
  have h2 : rows.length = (qs v).length := by
    by_cases e : rows.length = (qs v).length
    · exact e
    · rw [loadE_len h1 e] at h; cases h
  exact ⟨by unfold loadS; rw [List.length_map, List.length_zip, h2]; omega, h2⟩

set_option maxRecDepth 100000 in
set_option maxHeartbeats 4000000 in
theorem house_any (v : Vn) (A : Option Addr) (c : Nat) (rows : List (List Int)) (B : Option Addr) (vs : List Value) (d : Nat) (now : Int) (w : World) (h : Secs w A v.secs) (hc : v.secs.length ≤ c) (hw : VnW v) (hB : (AsRows B vs rows).p w) (hrm : rows.length ≤ 100000) (hrl : ∀ r ∈ rows, r.length ≤ 1000000 ∧ ∀ x ∈ r, 0 ≤ x ∧ x < 4294967296) :
    Calls Tryz.prog 33 #[.agg #[.int .i64 v.sh, .int .i64 v.ttl, .int .i64 v.ses, .slice A v.secs.length c], .slice B rows.length d, .int .i64 now] w (HousR w v rows now) := by
  have HS := hide (fun (y : World) (k : Ext w y) => h.ext k)
  have HBB := hide (fun (y : World) (k : Ext w y) => asRows_x hB k)
  have HC := hide hc
  have HRL := hide hrl
  have HCK := hide (fun (y : World) (k : Ext w y) => ref_check v A c y (HS.out y k) hc hw)
  clear h hc hw hB hrl
  have K0 := (Sep.refl No w).add 24 (vnC v A c)
  have tok1 : True := trivial
  go_enter Tryz.func33, Tryz.ntmps33
  go_upto_region 1 with (have zz := tok1; clear zz tok1; refine wpList_alS K0 rfl 82 rfl (lsC none none 0 0 0 0) (by kernel_rfl) ?_; intro w1 hz1 K1; clear hz1 K0)
  obtain ⟨g3, G3⟩ : ∃ g, w.heap.size = g := ⟨_, rfl⟩
  obtain ⟨g6, G6⟩ : ∃ g, (w.alloc (.cells (vnC v A c).toArray 24)).heap.size = g := ⟨_, rfl⟩
  rw [G3, G6] at K1
  try rw [show w.heap.size + 1 = g6 by rw [← G6]; simp]
  try rw [G6]
  rw [G3]
  clear G3 G6
  obtain ⟨c0, c1, c2, c3, cz⟩ := blk4 (K1.blk (g := g3) (e := 24) (List.Mem.tail _ (List.Mem.head _)))
  have K2 := hide K1
  clear K1
  go_wp2_with fail
  (with_reducible refine (HCK.out _ K2.out.toExt).mono ?_)
  rintro e w2 ⟨rfl, hx⟩
  have K3 := hide (K2.out.ext hx)
  clear K2 hx HCK c0 c1 c2 c3 cz
  by_cases hz : (chk v).2 = 0
  rotate_left
  · have HE : Hid (opE v rows now = (chk v).2) := hide (by unfold opE; rw [if_pos hz])
    have hb : ((chk v).2 != 0) = true := bne_iff_ne.2 hz
    have HZ := hide hz
    have K4 := K3.out
    clear hz K3
    have tok2 : True := trivial
    go_wp2_with (have zz := tok2; clear zz tok2; refine wpList_stS [] K4 rfl 82 (.tmp 6) (.tmp 19) rfl rfl (cs := lsC none none 0 0 0 0) rfl (by kernel_rfl) rfl (lsC_one _ _ _ _ _ _) ?_; intro w4 K5; dsimp only [List.nil_append] at K5; clear K4)
    refine bodyPost_ret (v := .tuple #[.agg (lsC none none 0 0 0 0).toArray, .int .i64 (chk v).2]) (results_ct rfl _ _ g6 82 (lsC none none 0 0 0 0) _ rfl (K5.blk (g := g6) (e := 82) (List.Mem.head _)) Tryz.underlying82 rfl (by kernel_rfl) rfl) rfl ?_
    exact housR_bad HE.out HZ.out K5.toExt rfl
  obtain ⟨hok, hch⟩ := chk_zero hz
  have HZ := hide hz
  have h8 := hok.few
  have HQ := hide (fun (y : World) (k : Ext w y) => limits_any v A c y (HS.out y k) HC.out (by omega))
  rw [hch]
  clear hok hch hz
  obtain ⟨c0, c1, c2, c3, cz⟩ := blk4 (K3.out.blk (g := g3) (e := 24) (List.Mem.tail _ (List.Mem.head _)))
  go_wp2_with fail
  (with_reducible refine (HQ.out _ K3.out.toExt).mono ?_)
  rintro e w3 ⟨x, rfl, hS⟩
  have K4 := hide (K3.out.joinW hS)
  obtain ⟨A4, c4, rfl, hr4, -, -⟩ := (hS.owns (e := 3) (v := x) (List.Mem.head _)).form
  have HLD := hide (rload_any (qs v) A4 c4 rows B vs d w3 hr4 (HBB.out _ K4.out.toExt) (by rw [qs_len]; omega) hrm HRL.out)
  rw [i64s_len]
  clear hS hr4 K3 HQ c0 c1 c2 c3 cz
  go_wp2_with fail
  (with_reducible refine HLD.out.mono ?_)
  rintro e w4 ⟨hg, hbd⟩
  clear HLD
  by_cases hle : (loadE (qs v) rows).2 = 0
  rotate_left
  · obtain ⟨rfl, hx⟩ := hbd hle
    have HE : Hid (opE v rows now = (loadE (qs v) rows).2) := hide (by unfold opE; rw [if_neg (by simpa using HZ.out), if_pos hle])
    have K5 := K4.out.ext hx
    dsimp only [List.cons_append, List.nil_append] at K5
    have hb : ((loadE (qs v) rows).2 == 0) = false := beq_eq_false_iff_ne.2 hle
    have HLE := hide hle
    clear hg hbd hle hx K4
    have tok2 : True := trivial
    have tok3 : True := trivial
    have tok4 : True := trivial
    have tok5 : True := trivial
    go_upto_region 5 with (first
      | (have zz := tok2; clear zz tok2; refine wpList_alS K5 rfl 82 rfl (lsC none none 0 0 0 0) (by kernel_rfl) ?_; intro w5 hz5 K6; clear hz5 K5)
      | (have zz := tok3; clear zz tok3; refine wpList_stS [] K6 rfl 82 (.tmp 10) (.tmp 26) rfl rfl (cs := lsC none none 0 0 0 0) rfl (by kernel_rfl) rfl (lsC_one _ _ _ _ _ _) ?_; intro w6 K7; dsimp only [List.nil_append] at K7; clear K6))
    obtain ⟨g10, G10⟩ : ∃ g, w4.heap.size = g := ⟨_, rfl⟩
    rw [G10] at K7 ⊢
    clear G10
    go_wp2_with (first
      | (have zz := tok4; clear zz tok4; refine wpList_ldS K7 (List.Mem.head _) rfl 82 (.tmp 10) rfl rfl _ Tryz.underlying82 rfl (by kernel_rfl) ?_)
      | (have zz := tok5; clear zz tok5; refine wpList_stS [_, _] K7 rfl 82 (.tmp 6) (.tmp 35) rfl rfl (cs := lsC none none 0 0 0 0) rfl (by kernel_rfl) rfl (lsC_one _ _ _ _ _ _) ?_; intro w8 K8; dsimp only [List.nil_append, List.cons_append] at K8; clear K7))
    refine bodyPost_ret (v := .tuple #[.agg (lsC none none 0 0 0 0).toArray, .int .i64 (loadE (qs v) rows).2]) (results_ct rfl _ _ g6 82 (lsC none none 0 0 0 0) _ rfl (K8.blk (g := g6) (e := 82) (List.Mem.tail _ (List.Mem.tail _ (List.Mem.head _)))) Tryz.underlying82 rfl (by kernel_rfl) rfl) rfl ?_
    exact housR_bad HE.out HLE.out K8.toExt rfl
  obtain ⟨A', c', B', d', vs', rfl, hS4⟩ := hg hle
  have HLN := hide (loadS_len hle)
  have HLE := hide hle
  obtain ⟨n, hn⟩ : ∃ n, (qs v).length = n := ⟨_, rfl⟩
  have K5 := K4.out.joinW hS4
  dsimp only [List.cons_append, List.nil_append] at K5
  rw [hn] at HLN ⊢
  clear hg hbd hle hS4 K4 hn
  have tok2 : True := trivial
  have tok3 : True := trivial
  go_upto_region 5 with (first
    | (have zz := tok2; clear zz tok2; refine wpList_alS K5 rfl 82 rfl (lsC none none 0 0 0 0) (by kernel_rfl) ?_; intro w5 hz5 K6; clear hz5 K5)
    | (have zz := tok3; clear zz tok3; refine wpList_stS [] K6 rfl 82 (.tmp 10) (.tmp 26) rfl rfl (cs := lsC A' B' n c' n d') rfl (by kernel_rfl) rfl (lsC_one _ _ _ _ _ _) ?_; intro w6 K7; dsimp only [List.nil_append] at K7; clear K6))
  obtain ⟨g10, G10⟩ : ∃ g, w4.heap.size = g := ⟨_, rfl⟩
  rw [G10] at K7 ⊢
  clear G10
  by_cases hn0 : now < 0
  · have HE : Hid (opE v rows now = 7) := hide (by unfold opE; rw [if_neg (by simpa using HZ.out), if_neg (by simpa using HLE.out), if_pos hn0])
    have tok4 : True := trivial
    have tok5 : True := trivial
    go_wp2_with (first
      | (have zz := tok4; clear zz tok4; refine wpList_ldS K7 (List.Mem.head _) rfl 82 (.tmp 10) rfl rfl _ Tryz.underlying82 rfl (by kernel_rfl) ?_)
      | (have zz := tok5; clear zz tok5; refine wpList_stS [_, _, _] K7 rfl 82 (.tmp 6) (.tmp 35) rfl rfl (cs := lsC A' B' n c' n d') rfl (by kernel_rfl) rfl (lsC_one _ _ _ _ _ _) ?_; intro w8 K8; dsimp only [List.nil_append, List.cons_append] at K8; clear K7))
    refine bodyPost_ret (v := .tuple #[.agg (lsC A' B' n c' n d').toArray, .int .i64 7]) (results_ct rfl _ _ g6 82 (lsC A' B' n c' n d') _ rfl (K8.blk (g := g6) (e := 82) (List.Mem.tail _ (List.Mem.tail _ (List.Mem.tail _ (List.Mem.head _))))) Tryz.underlying82 rfl (by kernel_rfl) rfl) rfl ?_
    exact housR_bad HE.out (by decide) K8.toExt rfl
  · have HE : Hid (opE v rows now = 0) := hide (by unfold opE; rw [if_neg (by simpa using HZ.out), if_neg (by simpa using HLE.out), if_neg hn0])
    have tok4 : True := trivial
    have tok5 : True := trivial
    go_wp2_with (first
      | (have zz := tok4; clear zz tok4; refine wpList_ldS K7 (List.Mem.head _) rfl 82 (.tmp 10) rfl rfl _ Tryz.underlying82 rfl (by kernel_rfl) ?_)
      | (have zz := tok5; clear zz tok5; refine wpList_stS [_, _, _] K7 rfl 82 (.tmp 6) (.tmp 35) rfl rfl (cs := lsC A' B' n c' n d') rfl (by kernel_rfl) rfl (lsC_one _ _ _ _ _ _) ?_; intro w8 K8; dsimp only [List.nil_append, List.cons_append] at K8; clear K7))
    refine bodyPost_ret (v := .tuple #[.agg (lsC A' B' n c' n d').toArray, .int .i64 0]) (results_ct rfl _ _ g6 82 (lsC A' B' n c' n d') _ rfl (K8.blk (g := g6) (e := 82) (List.Mem.tail _ (List.Mem.tail _ (List.Mem.tail _ (List.Mem.head _))))) Tryz.underlying82 rfl (by kernel_rfl) rfl) rfl ?_
    refine ⟨K8.toExt, .inl ⟨HE.out, A', B', c', d', vs', ?_, K8.sub (.cons _ (.cons_cons _ (List.nil_sublist _)))⟩⟩
    rw [HLN.out.1]
end Go.Proofs.YtdmaephmkfmehaaGreatDoor
namespace Go.Gr
open Go.RowKit
set_option linter.unusedVariables false
section
variable {P : Program} {R : RT} {ops : Array Oper} {Q : Exit → Act → World → Prop} {j i : Nat} {o : Oper} {rest : List Nat} {a : Act} {w : World}
theorem wf_ld1 (hi : ops[i]? = some o) (hij : (i == j) = false) (hw : Region.wanted o (yielded ops a.tmps) = true) (ty : TypeId) (x : Operand) (ho : o.op = .load ty x) {ad : Addr} {v : Value} (hx : a.eval x = .pointer (some ad)) (hc : ∀ w', R.r w w' → w'.cell? ad = some v) (d : TypeDesc)
    (hu : P.underlying ty = some d) (hd : (match d with | .struct _ | .array _ _ => false | _ => true) = true) (h : WF R P ops Q j rest (a.put o.dst v) w) : WF R P ops Q j (i :: rest) a w :=
  wf_rd hi hij (by simp [isX, isExt, ho]) fun K hK => by
    rw [if_pos hw]
    exact rdOp_ld1 ty x ho hx hc d hu hd (hK _ h)
end
/-- what is there, of old blocks that have not turned and of new ones -/
def As.over (w0 : World) (A : As) : As := ⟨fun k => A.fp k ∧ w0.heap.size ≤ k, fun y => (∀ k, A.fp k → w0.heap.size ≤ k → k < y.heap.size) ∧ ∀ y' : World, (∀ k, A.fp k → w0.heap.size ≤ k → y'.heap[k]? = y.heap[k]?) → (∀ k, k < w0.heap.size → y'.heap[k]? = w0.heap[k]?) → A.p y',
  fun h k hk => h.1 k hk.1 hk.2,
  fun {y y'} h e => ⟨fun k h1 h2 => by
    have h3 := h.1 k h1 h2
    have h4 := e k ⟨h1, h2⟩
    rw [Array.getElem?_eq_getElem h3] at h4
    exact (Array.getElem?_eq_some_iff.1 h4).1, fun z h1 h2 => h.2 z (fun k a b => (h1 k a b).trans (e k ⟨a, b⟩)) h2⟩⟩
theorem over_of {w0 y : World} {A : As} (h : A.p y) (ho : ∀ k, k < w0.heap.size → y.heap[k]? = w0.heap[k]?) : (As.over w0 A).p y :=
  ⟨fun k h1 _ => A.lt h k h1, fun y' h1 h2 => A.loc h fun k hk => by
    rcases Nat.lt_or_ge k w0.heap.size with h3 | h3
    · rw [h2 k h3, ho k h3]
    · exact h1 k hk h3⟩
theorem over_get {w0 w : World} {L : List As} {A : As} (h : Sep No w0 w L) (hA : As.over w0 A ∈ L) : A.p w :=
  (h.get hA).2 w (fun _ _ _ => rfl) (fun k hk => h.fr.block k hk (fun h => h))
/-- another one takes its place -/
theorem over_to {w0 w w' : World} {L1 L2 : List As} {A B : As} (h : Sep No w0 w (L1 ++ As.over w0 A :: L2)) (hx : Ext w w') (hp : B.p w') (hf : ∀ k, B.fp k → A.fp k ∨ w.heap.size ≤ k) : Sep No w0 w' (L1 ++ As.over w0 B :: L2) :=
  h.upd (B := As.over w0 B) (S := No) (Fr.of_ext hx) (fun i h => h.elim) (over_of hp (fun k hk => ((h.ext hx).fr.block k hk (fun h => h)))) (fun i hi => (hf i hi.1).elim (fun h1 => .inl ⟨h1, hi.2⟩) .inr)
theorem over_new {w0 w : World} {L : List As} {A : As} (h : Sep No w0 w L) (hp : A.p w0) : Sep No w0 w (As.over w0 A :: L) := by
  have hA : A.p w := A.loc hp fun k hk => h.fr.block k (A.lt hp k hk) (fun h => h)
  exact h.new (B := As.over w0 A) (Ext.refl w) (over_of hA (fun k hk => h.fr.block k hk (fun h => h))) (fun i hi => absurd (A.lt hp i hi.1) (by have := hi.2; omega))
/-- what a call made out of A, and of new blocks -/
theorem over_in {G : Nat → Prop} {w0 w w' : World} {L M : List As} {A B : As} (K : Sep G w0 w (A :: L)) (k : Sep No w w' (As.over w B :: M)) (hf : ∀ i, B.fp i → A.fp i ∨ w.heap.size ≤ i) : Sep G w0 w' (B :: (M ++ L)) := by
  have h1 := K.joinW k
  have h2 : Sep G w0 w' (As.over w B :: A :: (M ++ L)) := h1.perm (List.Perm.cons _ List.perm_middle)
  exact h2.merge (C := B) (fun hp _ => hp.2 w' (fun _ _ _ => rfl) (fun i hi => k.fr.block i hi (fun h => h))) (fun i hi => (hf i hi).elim .inr (fun h => .inl ⟨hi, h⟩))
end Go.Gr
namespace Go.Proofs.YtdmaephmkfmehaaGreatDoor
open Go.RowKit Go.Gr Go.Hp Go.Ad Go.Wl Go.Pm
set_option linter.unusedVariables false
set_option linter.unusedSimpArgs false
attribute [local go_sem] rdOp rdAt rdUpon Cls forall_fr
/-- what lies there while seats are offered -/
abbrev OfL (w : World) (A B : Option Addr) (vs : List Value) (R : Rs) (vg vf : Value) (g5 g9 g8 g4 n c d : Nat) (v : Vn) (Av : Option Addr) (cv : Nat) : List As :=
  [As.over w (AsRf A B vs R.S), As.ownM 43 4 vg (gtV R.gr), As.own 3 vf (i64s R.fr), As.blk g5 82 (lsC A B n c n d), As.blk g9 34 [.slice none 0 0, vg, .slice none 0 0, vf], As.blk g8 34 (rsC none none none none 0 0 0 0 0 0 0 0), As.blk g4 24 (vnC v Av cv)]

/-- what offered answers -/
def OfdR (A B : Option Addr) (vs : List Value) (S : St) (R : Rs) (w : World) (e : Ending) (w' : World) : Prop := ∃ (vg vf : Value) (B' : Option Addr) (d' : Nat) (vs' : List Value), e = .returned (.agg #[.slice none 0 0, vg, .slice B' S.length d', vf]) ∧
  Sep No w w' [As.over w (AsRf A B' vs' R.S), As.ownM 43 4 vg (gtV R.gr), As.own 3 vf (i64s R.fr)] ∧ ∀ k, (AsRf A B' vs' R.S).fp k → (AsRf A B vs S).fp k ∨ w.heap.size ≤ k

set_option maxRecDepth 100000 in
set_option maxHeartbeats 8000000 in
theorem offered_any (v : Vn) (Av : Option Addr) (cv : Nat) (S : St) (A B₀ : Option Addr) (vs₀ : List Value) (c d₀ : Nat) (seats : List Int) (C : Option Addr) (cs : Nat) (now : Int) (w : World) (h : Secs w Av v.secs) (hc : v.secs.length ≤ cv) (hw : VnW v) (hz : (chk v).2 = 0) (hrf : (AsRf A B₀ vs₀ S).p w) (hok : Ok S) (hC : Rd w C (i64s seats)) (hls : seats.length ≤ cs) (hl : seats.length ≤ 9000) (hn0 : 0 ≤ now) (hn1 : now ≤ 9223372036854775807) :
    Calls Tryz.prog 35 #[.agg #[.int .i64 v.sh, .int .i64 v.ttl, .int .i64 v.ses, .slice Av v.secs.length cv], .agg #[.slice A S.length c, .slice B₀ S.length d₀], .slice C seats.length cs, .int .i64 now] w (OfdR A B₀ vs₀ S (offO v (addT now v.ttl) S seats) w) := by
  obtain ⟨i0, ki, kz0, kz1, kz2⟩ := info_parts infoGt
  obtain ⟨j0, mi, mz0, mz1, mz2⟩ := info_parts infoIq
  have HPL := hide (fun (x : Int) (y : World) (k : Ext w y) => rplace v Av cv x y (h.ext k) hc hw)
  have HSE := hide (fun (y : World) (k : Ext w y) => hC.ext k)
  have ht := (chk_zero hz).1.ttl
  have HAD := hide (fun (y : World) => radd_any now v.ttl ⟨hn0, hn1⟩ ⟨by omega, by omega⟩ y)
  have HL : Hid (seats.length ≤ 9000) := hide hl
  have HLS := hide hls
  have hl2 : (seats.length : Int) ≤ 9000 := by omega
  have HM := hide (offO_many v (addT now v.ttl) S)
  have hR0 : offO v (addT now v.ttl) S (seats.take 0) = ⟨[], S, []⟩ := rfl
  obtain ⟨n, hn⟩ : ∃ n, S.length = n := ⟨_, rfl⟩
  have HI0 : Hid (offO v (addT now v.ttl) S (seats.take 0) = ⟨[], S, []⟩ ∧ S.length = n ∧ Ok S ∧ ∀ k, (AsRf A B₀ vs₀ S).fp k → (AsRf A B₀ vs₀ S).fp k ∨ w.heap.size ≤ k) := hide ⟨rfl, hn, hok, fun k hk => .inl hk⟩
  have HN0 := hide hn
  rw [hn]
  have K0 := over_new ((((Sep.refl No w).add2 24 82 (vnC v Av cv) (lsC A B₀ n c n d₀)).add 34 (rsC none none none none 0 0 0 0 0 0 0 0)).add 34 (rsC none none none none 0 0 0 0 0 0 0 0)) hrf
  simp only [World.size_alloc] at K0
  clear h hc hw hz hrf hok hC hls hl hn0 hn1 ht hR0 hn
  go_enter Tryz.func35, Tryz.ntmps35
  go_upto_region 2 with fail
  generalize World.alloc _ _ = w1 at K0 ⊢
  obtain ⟨g4, G4⟩ : ∃ g, w.heap.size = g := ⟨_, rfl⟩
  rw [G4] at K0 ⊢
  obtain ⟨g5, G5⟩ : ∃ g, g4 + 1 = g := ⟨_, rfl⟩
  rw [G5] at K0 ⊢
  obtain ⟨g8, G8⟩ : ∃ g, g5 + 1 = g := ⟨_, rfl⟩
  rw [G8] at K0 ⊢
  obtain ⟨g9, G9⟩ : ∃ g, g8 + 1 = g := ⟨_, rfl⟩
  rw [G9] at K0 ⊢
  clear G4 G5 G8 G9
  have K1 := (K0.nilO 3).nilM 43 4
  obtain ⟨c0, c1, c2, c3, cz⟩ := blk4 (K1.blk (g := g4) (e := 24) (List.Mem.tail _ (List.Mem.tail _ (List.Mem.tail _ (List.Mem.tail _ (List.Mem.tail _ (List.Mem.tail _ (List.Mem.head _))))))))
  have K2 : Hid (Sep No w w1 (OfL w A B₀ vs₀ ⟨[], S, []⟩ (.slice none 0 0) (.slice none 0 0) g5 g9 g8 g4 n c d₀ v Av cv)) := hide (K1.perm (by
    have h1 : List.Perm [As.ownM 43 4 (.slice none 0 0) [], As.own 3 (.slice none 0 0) [], As.over w (AsRf A B₀ vs₀ S), As.blk g9 34 (rsC none none none none 0 0 0 0 0 0 0 0), As.blk g8 34 (rsC none none none none 0 0 0 0 0 0 0 0), As.blk g5 82 (lsC A B₀ n c n d₀), As.blk g4 24 (vnC v Av cv)] [As.over w (AsRf A B₀ vs₀ S), As.ownM 43 4 (.slice none 0 0) [], As.own 3 (.slice none 0 0) [], As.blk g5 82 (lsC A B₀ n c n d₀), As.blk g9 34 (rsC none none none none 0 0 0 0 0 0 0 0), As.blk g8 34 (rsC none none none none 0 0 0 0 0 0 0 0), As.blk g4 24 (vnC v Av cv)] :=
      ((List.Perm.cons _ (List.Perm.swap _ _ _)).trans (List.Perm.swap _ _ _)).trans (List.Perm.cons _ (List.Perm.cons _ (List.Perm.cons _ ((List.Perm.cons _ (List.Perm.swap _ _ _)).trans (List.Perm.swap _ _ _)))))
    exact h1))
  clear K0 K1
  go_wp2_with fail
  (with_reducible refine (HAD.out _).mono ?_)
  rintro e w2 ⟨rfl, rfl⟩
  clear HAD c0 c1 c2 c3 cz
  go_wp2_with fail
  go_loopw [12] (fun v12 wr => ∃ (i : Nat) (R : Rs) (B : Option Addr) (d : Nat) (vs : List Value) (vg vf : Value), v12 = .int .i64 i ∧ i ≤ seats.length ∧ Hid (offO v (addT now v.ttl) S (seats.take i) = R ∧ R.S.length = n ∧ Ok R.S ∧ ∀ k, (AsRf A B vs R.S).fp k → (AsRf A B₀ vs₀ S).fp k ∨ w.heap.size ≤ k) ∧ Hid (Sep No w wr (OfL w A B vs R vg vf g5 g9 g8 g4 n c d v Av cv))) (fun v12 _ => seats.length - (intOf v12).toNat)
  case atStart => exact ⟨0, _, B₀, d₀, vs₀, _, _, rfl, Nat.zero_le _, HI0, K2⟩
  case round =>
    clear K2 HI0
    obtain ⟨i, R, B, d, vs, vg, vf, rfl, hil, HI, K3⟩ := hrel
    have hi9 : i ≤ 9000 := by have := HL.out; omega
    by_cases hlt : i < seats.length
    · have hli : (i : Int) < (seats.length : Int) := by omega
      have hic : (i : Int) < (cs : Int) := by have := HLS.out; omega
      obtain ⟨x, hx⟩ : ∃ x, seats[i] = x := ⟨_, rfl⟩
      have HX0 := hide (fun (y : World) (k : Ext w y) => i64s_at (HSE.out y k) hlt)
      rw [hx] at HX0
      obtain ⟨ad, rfl, hx0⟩ := HX0.out w (Ext.refl w)
      have HX : Hid (∀ y, Ext w y → y.cell? (ad.add i) = some (.int .i64 x)) := hide (fun y k => by
        obtain ⟨_, e1, h1⟩ := HX0.out y k
        cases e1
        exact h1)
      have HXB : Hid ((ad.add i).block < w.heap.size) := hide (cell_lt hx0)
      have HNX : Hid (offO v (addT now v.ttl) S (seats.take (i + 1)) = stepO v (addT now v.ttl) R x) := hide (by rw [← HI.out.1, ← hx]; exact offO_snoc' hlt)
      have HPL1 := hide (HPL.out x)
      have hm1 := HM.out (seats.take i)
      rw [HI.out.1, List.length_take] at hm1
      have HGF : Hid (R.gr.length < 10000 ∧ (i64s R.fr).length < 1000000000) := hide ⟨by omega, by rw [i64s_len]; omega⟩
      have HLT := hide hlt
      clear hx hx0 HX0 hm1 hlt
      obtain ⟨sec, hsec⟩ : ∃ q, (plX v x).sec = q := ⟨_, rfl⟩
      obtain ⟨row, hrow⟩ : ∃ q, (plX v x).row = q := ⟨_, rfl⟩
      obtain ⟨st, hst⟩ : ∃ q, (plX v x).seat = q := ⟨_, rfl⟩
      have HSC : Hid (secOf v x = (sec : Nat)) := hide (by unfold secOf; rw [hsec])
      rw [hsec, hrow, hst] at HPL1
      clear hsec hrow hst
      go_upto_region 6 with fail
      go_cut [13, 14] (fun v13 v14 wx => v14 = .int .i64 (plE v x) ∧ ∃ g13 : Nat, v13 = .pointer (some ⟨g13, 0, none⟩) ∧ Sep No w wx (As.blk g13 86 [.int .i64 (sec : Nat), .int .i64 (row : Nat), .int .i64 (st : Nat)] :: OfL w A B vs R vg vf g5 g9 g8 g4 n c d v Av cv))
      case first =>
        have H2 := K3.out.drew
        refine wp_region_wf (RT.up wr.drew.heap.size) 9 [0, 1, 2, 3, 4, 5, 6, 7, 8, 9, 10, 11] (by kernel_rfl) (by kernel_rfl) (by kernel_rfl) (by kernel_rfl) (by kernel_rfl) ?_
        clear K3
        generalize World.drew _ = wd at *
        have hbv := H2.blk (e := 24) (List.Mem.tail _ (List.Mem.tail _ (List.Mem.tail _ (List.Mem.tail _ (List.Mem.tail _ (List.Mem.tail _ (List.Mem.head _)))))))
        have x1 := HX.out _ H2.toExt
        have hgl := cell_lt x1
        refine wf_ldX rfl rfl rfl 24 (.tmp 4) rfl (fun w' h' => hbv.at5.fr h' (by have := hbv.lt; omega)) rfl _ Tryz.underlying24 rfl (by kernel_rfl) ?_
        iterate 3 (refine wf_rd rfl rfl rfl (fun K hK => ?_); go_simp; refine hK _ ?_; clear hK K)
        refine wf_ld1 rfl rfl rfl 3 (.tmp 35) rfl rfl (fun w' h' => Fr.cell h' x1 (fun hq => absurd hq (Nat.not_le_of_lt hgl))) _ Tryz.underlying3 rfl ?_
        clear hbv x1 hgl
        refine wf_ext rfl rfl rfl (fun K hK => ?_) ?_
        · go_simp
          go_at_call 34
          (with_reducible refine (HPL1.out _ H2.toExt).mono ?_)
          rintro e w8 ⟨rfl, hx2⟩
          refine hK _ _ (hx2.up _) ?_
          clear hK K
          have H3 := H2.ext hx2
          have hz2 := hx2.size
          clear H2 hx2
          iterate 3 (refine wf_rd rfl rfl rfl (fun K hK => ?_); go_simp; refine hK _ ?_; clear hK K)
          refine wf_at rfl ?_
          refine wmr_ext rfl rfl (fun K hK => ?_)
          rw [if_pos (show Region.wanted _ _ = true from rfl)]
          refine wp_alS H3 86 rfl [.int .i64 0, .int .i64 0, .int .i64 0] (by kernel_rfl) (fun w9 hz3 hx3 H4 => ?_)
          refine hK _ _ (hx3.up _) ?_
          clear hK K H3 hx3
          refine wmr_ext rfl rfl (fun K hK => ?_)
          rw [if_pos (show Region.wanted _ _ = true from rfl)]
          refine wp_stS [] H4 86 (.tmp 13) (.tmp 38) rfl (cs := [.int .i64 (sec : Nat), .int .i64 (row : Nat), .int .i64 (st : Nat)]) rfl rfl (by kernel_rfl) rfl (int3_one _ _ _) (fun w10 H5 hu4 => ?_)
          refine hK _ _ (hu4.up (by omega)) ?_
          clear hK K H4 hu4
          iterate 1 (refine wmr_rd rfl rfl (fun K hK => ?_); go_simp; refine hK _ ?_; clear hK K)
          refine wmr_nil ?_
          go_wp2_with fail
          go_meet
          case rel => exact ⟨rfl, _, rfl, H5⟩
        · refine wmr_ext rfl rfl (fun K hK => ?_)
          rw [if_pos (show Region.wanted _ _ = true from rfl)]
          refine wp_alS H2 86 rfl [.int .i64 0, .int .i64 0, .int .i64 0] (by kernel_rfl) (fun w9 hz3 hx3 H4 => ?_)
          refine hK _ _ (hx3.up _) ?_
          clear hK K H2 hx3
          refine wmr_ext rfl rfl (fun K hK => ?_)
          go_simp
          go_at_call 34
          (with_reducible refine (HPL1.out _ H4.toExt).mono ?_)
          rintro e w8 ⟨rfl, hx2⟩
          refine hK _ _ (hx2.up _) ?_
          clear hK K
          have H3 := H4.ext hx2
          clear H4 hx2
          show WMR _ _ _ _ [6, 7, 8, 10, 11] _ _
          iterate 3 (refine wmr_rd rfl rfl (fun K hK => ?_); go_simp; refine hK _ ?_; clear hK K)
          refine wmr_ext rfl rfl (fun K hK => ?_)
          rw [if_pos (show Region.wanted _ _ = true from rfl)]
          refine wp_stS [] H3 86 (.tmp 13) (.tmp 38) rfl (cs := [.int .i64 (sec : Nat), .int .i64 (row : Nat), .int .i64 (st : Nat)]) rfl rfl (by kernel_rfl) rfl (int3_one _ _ _) (fun w10 H5 hu4 => ?_)
          refine hK _ _ (hu4.up (Nat.le_refl _)) ?_
          clear hK K H3 hu4
          iterate 1 (refine wmr_rd rfl rfl (fun K hK => ?_); go_simp; refine hK _ ?_; clear hK K)
          refine wmr_nil ?_
          go_wp2_with fail
          go_meet
          case rel => exact ⟨rfl, _, rfl, H5⟩
      case rest =>
        obtain ⟨rfl, g13, rfl, H⟩ := hcut
        clear K3 HPL1
        obtain ⟨b0, b1, b2, bz⟩ := blk3 (H.blk (g := g13) (e := 86) (List.Mem.head _))
        have HTK := hide (rtake_any (c := c) (d := d) (i := ((sec : Nat) : Int)) (over_get H (A := AsRf A B vs R.S) (List.Mem.tail _ (List.Mem.head _))) HI.out.2.2.1)
        have HTL : Hid ((takeS R.S ((sec : Nat) : Int)).1.length = n ∧ Ok (takeS R.S ((sec : Nat) : Int)).1) := hide ⟨(Go.Pm.take_len _ _).trans HI.out.2.1, take_ok HI.out.2.2.1 _⟩
        rw [HI.out.2.1] at HTK
        have tok3 : True := trivial
        go_wp2_with (have zz := tok3; clear zz tok3; refine wpList_ldS H (List.Mem.tail _ (List.Mem.tail _ (List.Mem.tail _ (List.Mem.tail _ (List.Mem.head _))))) rfl 82 (.tmp 5) rfl rfl _ Tryz.underlying82 rfl (by kernel_rfl) ?_)
        (with_reducible refine HTK.out.mono ?_)
        rintro e w4 ⟨v4, rfl, B', vs', d', rfl, hp, hx, hfp⟩
        rw [HTL.out.1]
        clear HTK b0 b1 b2 bz
        by_cases hc : (takeS R.S ((sec : Nat) : Int)).2.2 = 0
        rotate_left
        · have HNX2 : Hid (offO v (addT now v.ttl) S (seats.take (i + 1)) = ⟨R.gr, R.S, R.fr ++ [x]⟩) := hide (by rw [HNX.out]; exact step_free (by rw [HSC.out]; exact hc))
          have K4 := H.ext hx
          have hb : ((takeS R.S ((sec : Nat) : Int)).2.2 != 0) = true := bne_iff_ne.2 hc
          clear H hp hx hfp hc HNX HTL
          generalize (takeS R.S ((sec : Nat) : Int)).2.2 = er at *
          generalize (takeS R.S ((sec : Nat) : Int)).2.1 = o at *
          have tok4 : True := trivial
          have tok5 : True := trivial
          go_upto_region 9 with (first
            | (have zz := tok4; clear zz tok4; refine wpList_alS K4 rfl 82 rfl (lsC none none 0 0 0 0) (by kernel_rfl) ?_; intro w5 hz5 K6; clear hz5 K4)
            | (have zz := tok5; clear zz tok5; refine wpList_stS [] K6 rfl 82 (.tmp 15) (.tmp 45) rfl rfl (cs := lsC A B' n c n d') rfl (by kernel_rfl) rfl (lsC_one _ _ _ _ _ _) ?_; intro w6 K7; dsimp only [List.nil_append] at K7; clear K6))
          obtain ⟨g15, G15⟩ : ∃ g, w4.heap.size = g := ⟨_, rfl⟩
          rw [G15] at K7 ⊢
          clear G15 hb
          refine wp_region_wtR (RT.fr (fun i => vf.ownBlock = some i)) 8 [0, 1, 2, 3, 4, 5, 6, 7] (by kernel_rfl) (by kernel_rfl) (by kernel_rfl) ?_
          have KD := K7.drew
          clear K7
          generalize World.drew _ = wd at *
          obtain ⟨-, -, -, c3, cz⟩ := q4 (KD.blk (g := g9) (e := 34) (cs := [.slice none 0 0, vg, .slice none 0 0, vf]) (List.Mem.tail _ (List.Mem.tail _ (List.Mem.tail _ (List.Mem.tail _ (List.Mem.tail _ (List.Mem.tail _ (List.Mem.head _))))))))
          have x1 := HX.out _ KD.toExt
          have hne : ¬ vf.ownBlock = some g9 := fun hq => (List.pairwise_cons.1 KD.tail.tail.tail.tail.dis).1 (As.blk g9 34 [.slice none 0 0, vg, .slice none 0 0, vf]) (List.Mem.tail _ (List.Mem.head _)) g9 hq rfl
          have hna : ¬ vf.ownBlock = some (ad.add i).block := fun hq => by
            have h1 := KD.own (As.own 3 vf (i64s R.fr)) (List.Mem.tail _ (List.Mem.tail _ (List.Mem.tail _ (List.Mem.tail _ (List.Mem.head _))))) (ad.add i).block hq
            have h2 := HXB.out
            rcases h1 with h1 | h1
            · exact h1
            · omega
          iterate 1 (refine wr_rd rfl rfl (fun K hK => ?_); go_simp; refine hK _ ?_; clear hK K)
          refine wr_ld1 rfl rfl 32 (.tmp 50) rfl rfl (fun w' h => Fr.cell h c3 hne) _ Tryz.underlying32 rfl ?_
          iterate 3 (refine wr_rd rfl rfl (fun K hK => ?_); go_simp; refine hK _ ?_; clear hK K)
          refine wr_ld1 rfl rfl 3 (.tmp 54) rfl rfl (fun w' h => Fr.cell h x1 hna) _ Tryz.underlying3 rfl ?_
          clear c3 cz x1 hne hna
          refine wr_ext rfl rfl (fun K hK => ?_)
          go_simp
          refine hK _ _ ((Fr.of_ext ((Ext.refl wd).alloc _)).mono (fun i h => h.elim)) ?_
          clear hK K
          have HN := hide (Rd.one wd (.int .i64 x) 3)
          have KA := KD.ext ((Ext.refl wd).alloc (.cells #[.int .i64 x] 3))
          clear KD
          refine wr_ext rfl rfl (fun K hK => ?_)
          rw [if_pos (show Region.wanted _ _ = true from rfl)]
          refine wp_apS [_, _, _, _] KA (.tmp 51) (.tmp 56) 32 rfl j0 _ 8 Tryz.underlying32 mi mz0 mz1 mz2 rfl rfl (A := some ⟨wd.heap.size, 0, none⟩) (m := 1) (c := 1) (news := [.int .i64 x]) rfl rfl HN.out (by intro u hu; rw [List.mem_singleton] at hu; subst hu; rfl) (by have := HGF.out.2; simp; omega) (by decide) ?_
          intro vf' w7 K8 hg1 hg2
          dsimp only [List.nil_append, List.cons_append] at K8
          refine hK _ _ hg1 ?_
          clear hK K hg1 hg2 KA HN
          rw [i64s_snoc] at K8
          have hl8 := (K8.blk (g := g9) (e := 34) (cs := [.slice none 0 0, vg, .slice none 0 0, vf]) (List.Mem.tail _ (List.Mem.tail _ (List.Mem.tail _ (List.Mem.tail _ (List.Mem.tail _ (List.Mem.tail _ (List.Mem.head _)))))))).lt
          refine wr_nil ?_
          simp only [List.drop_succ_cons, List.drop_zero]
          have tok6 : True := trivial
          go_wp2_with (have zz := tok6; clear zz tok6; refine wpList_st1S [_, _, _, _, _, _] K8 rfl 32 (.tmp 58) (.tmp 57) rfl (i := 3) (v := vf') rfl rfl (by kernel_rfl) (show 3 < 4 by decide) (ownOne (K8.owns (e := 3) (v := vf') (List.Mem.tail _ (List.Mem.tail _ (List.Mem.tail _ (List.Mem.tail _ (List.Mem.head _))))))) ?_; intro w8 K9; dsimp only [List.nil_append, List.cons_append, List.set] at K9; clear K8 hl8)
          refine NoPanic.normal ?_
          have HI2 : Hid (offO v (addT now v.ttl) S (seats.take (i + 1)) = ⟨R.gr, R.S, R.fr ++ [x]⟩ ∧ (⟨R.gr, R.S, R.fr ++ [x]⟩ : Rs).S.length = n ∧ Ok (⟨R.gr, R.S, R.fr ++ [x]⟩ : Rs).S ∧ ∀ k, (AsRf A B vs (⟨R.gr, R.S, R.fr ++ [x]⟩ : Rs).S).fp k → (AsRf A B₀ vs₀ S).fp k ∨ w.heap.size ≤ k) := hide ⟨HNX2.out, HI.out.2.1, HI.out.2.2.1, HI.out.2.2.2⟩
          have K10 : Hid (Sep No w w8 (OfL w A B vs ⟨R.gr, R.S, R.fr ++ [x]⟩ vg vf' g5 g9 g8 g4 n c d v Av cv)) := hide K9.tail.tail
          clear K9
          go_wp2_with fail
          try go_frame
          go_roundw
          case rel => exact ⟨i + 1, _, B, d, vs, vg, vf', by go_num, HLT.out, HI2, K10⟩
          case measure => have := HLT.out; simp [intOf]; omega
        · have HNX2 : Hid (offO v (addT now v.ttl) S (seats.take (i + 1)) = ⟨R.gr ++ [⟨x, (sec : Nat), (takeS R.S ((sec : Nat) : Int)).2.1, addT now v.ttl⟩], (takeS R.S ((sec : Nat) : Int)).1, R.fr⟩) := hide (by
            have := step_got (v := v) (dl := addT now v.ttl) (R := R) (x := x) (by rw [HSC.out]; exact hc)
            rw [HSC.out] at this
            rw [HNX.out]; exact this)
          have K4 := over_to (L1 := [_]) H hx hp hfp
          have HFP := hide (show ∀ k, (AsRf A B' vs' (takeS R.S ((sec : Nat) : Int)).1).fp k → (AsRf A B₀ vs₀ S).fp k ∨ w.heap.size ≤ k from fun k hk => (hfp k hk).elim (fun h1 => HI.out.2.2.2 k h1) (fun h1 => .inr (Nat.le_trans H.le h1)))
          dsimp only [List.cons_append, List.nil_append] at K4
          rw [hc]
          clear H hp hx hfp hc HNX
          generalize (takeS R.S ((sec : Nat) : Int)).2.1 = o at *
          generalize (takeS R.S ((sec : Nat) : Int)).1 = S' at *
          have tok4 : True := trivial
          have tok5 : True := trivial
          have tok7 : True := trivial
          have tok8 : True := trivial
          go_upto_region 8 with (first
            | (have zz := tok4; clear zz tok4; refine wpList_alS K4 rfl 82 rfl (lsC none none 0 0 0 0) (by kernel_rfl) ?_; intro w5 hz5 K6; clear hz5 K4)
            | (have zz := tok5; clear zz tok5; refine wpList_stS [] K6 rfl 82 (.tmp 15) (.tmp 45) rfl rfl (cs := lsC A B' n c n d') rfl (by kernel_rfl) rfl (lsC_one _ _ _ _ _ _) ?_; intro w6 K7; dsimp only [List.nil_append] at K7; clear K6))
          obtain ⟨g15, G15⟩ : ∃ g, w4.heap.size = g := ⟨_, rfl⟩
          rw [G15] at K7 ⊢
          clear G15
          go_upto_region 11 with (first
            | (have zz := tok7; clear zz tok7; refine wpList_ldS K7 (List.Mem.head _) rfl 82 (.tmp 15) rfl rfl _ Tryz.underlying82 rfl (by kernel_rfl) ?_)
            | (have zz := tok8; clear zz tok8; refine wpList_stS [_, _, _, _, _] K7 rfl 82 (.tmp 5) (.tmp 59) rfl rfl (cs := lsC A B' n c n d') rfl (by kernel_rfl) rfl (lsC_one _ _ _ _ _ _) ?_; intro w8 K8; dsimp only [List.nil_append, List.cons_append] at K8; clear K7))
          refine wp_region_wtR (RT.fr (fun i => vg.ownBlock = some i)) 13 [0, 1, 2, 3, 4, 5, 6, 7, 8, 9, 10, 11, 12] (by kernel_rfl) (by kernel_rfl) (by kernel_rfl) ?_
          have KD := K8.drew
          clear K8
          generalize World.drew _ = wd at *
          obtain ⟨-, c1, -, -, cz⟩ := q4 (KD.blk (g := g9) (e := 34) (cs := [.slice none 0 0, vg, .slice none 0 0, vf]) (List.Mem.tail _ (List.Mem.tail _ (List.Mem.tail _ (List.Mem.tail _ (List.Mem.tail _ (List.Mem.tail _ (List.Mem.head _))))))))
          obtain ⟨b0, b1, b2, bz⟩ := blk3 (KD.blk (g := g13) (e := 86) (List.Mem.tail _ (List.Mem.head _)))
          have x1 := HX.out _ KD.toExt
          have hne : ¬ vg.ownBlock = some g9 := fun hq => (List.pairwise_cons.1 KD.tail.tail.tail.dis).1 (As.blk g9 34 [.slice none 0 0, vg, .slice none 0 0, vf]) (List.Mem.tail _ (List.Mem.tail _ (List.Mem.head _))) g9 hq rfl
          have hn3 : ¬ vg.ownBlock = some g13 := fun hq => (List.pairwise_cons.1 KD.tail.dis).1 (As.ownM 43 4 vg (gtV R.gr)) (List.Mem.tail _ (List.Mem.head _)) g13 rfl hq
          have hna : ¬ vg.ownBlock = some (ad.add i).block := fun hq => by
            have h1 := KD.own (As.ownM 43 4 vg (gtV R.gr)) (List.Mem.tail _ (List.Mem.tail _ (List.Mem.tail _ (List.Mem.head _)))) (ad.add i).block hq
            have h2 := HXB.out
            rcases h1 with h1 | h1
            · exact h1
            · omega
          iterate 1 (refine wr_rd rfl rfl (fun K hK => ?_); go_simp; refine hK _ ?_; clear hK K)
          refine wr_ld1 rfl rfl 31 (.tmp 60) rfl rfl (fun w' h => Fr.cell h c1 hne) _ Tryz.underlying31 rfl ?_
          iterate 3 (refine wr_rd rfl rfl (fun K hK => ?_); go_simp; refine hK _ ?_; clear hK K)
          refine wr_ld1 rfl rfl 3 (.tmp 64) rfl rfl (fun w' h => Fr.cell h x1 hna) _ Tryz.underlying3 rfl ?_
          iterate 1 (refine wr_rd rfl rfl (fun K hK => ?_); go_simp; refine hK _ ?_; clear hK K)
          refine wr_ld1 rfl rfl 3 (.tmp 66) rfl rfl (fun w' h => Fr.cell h b0 hn3) _ Tryz.underlying3 rfl ?_
          iterate 3 (refine wr_rd rfl rfl (fun K hK => ?_); go_simp; refine hK _ ?_; clear hK K)
          clear c1 cz b0 b1 b2 bz x1 hne hna hn3
          refine wr_ext rfl rfl (fun K hK => ?_)
          go_simp
          refine hK _ _ ((Fr.of_ext ((Ext.refl wd).alloc _)).mono (fun i h => h.elim)) ?_
          clear hK K
          have HN := hide (rdM_new wd 43 (gtC ⟨x, (sec : Nat), o, addT now v.ttl⟩))
          have KA := KD.ext ((Ext.refl wd).alloc (.cells (gtC ⟨x, (sec : Nat), o, addT now v.ttl⟩).toArray 43))
          clear KD
          refine wr_ext rfl rfl (fun K hK => ?_)
          rw [if_pos (show Region.wanted _ _ = true from rfl)]
          refine wp_apsM [_, _, _] KA (.tmp 61) (.tmp 71) 31 rfl i0 _ 32 Tryz.underlying31 ki kz0 kz1 kz2 rfl (by decide) rfl (A := some ⟨wd.heap.size, 0, none⟩) (m := 1) (c := 1) (news := [gtC ⟨x, (sec : Nat), o, addT now v.ttl⟩]) rfl rfl HN.out (by intro r hr; rw [List.mem_singleton] at hr; subst hr; rfl) (by intro r hr; rw [List.mem_singleton] at hr; subst hr; exact gtC_one _) (by rw [gtV_len]; have := HGF.out.1; simp; omega) (by decide) ?_
          intro vg' w7 K9 hg1
          dsimp only [List.nil_append, List.cons_append] at K9
          refine hK _ _ hg1.fr ?_
          clear hK K hg1 KA HN
          rw [gtV_snoc] at K9
          have hl9 := (K9.blk (g := g9) (e := 34) (cs := [.slice none 0 0, vg, .slice none 0 0, vf]) (List.Mem.tail _ (List.Mem.tail _ (List.Mem.tail _ (List.Mem.tail _ (List.Mem.tail _ (List.Mem.tail _ (List.Mem.head _)))))))).lt
          refine wr_nil ?_
          simp only [List.drop_succ_cons, List.drop_zero]
          have tok6 : True := trivial
          go_wp2_with (have zz := tok6; clear zz tok6; refine wpList_st1S [_, _, _, _, _, _] K9 rfl 31 (.tmp 73) (.tmp 72) rfl (i := 1) (v := vg') rfl rfl (by kernel_rfl) (show 1 < 4 by decide) (ownMOne (K9.ownsM (e := 43) (k := 4) (v := vg') (List.Mem.tail _ (List.Mem.tail _ (List.Mem.tail _ (List.Mem.head _)))))) ?_; intro w10 K11; dsimp only [List.nil_append, List.cons_append, List.set] at K11; clear K9 hl9)
          refine NoPanic.normal ?_
          have HI2 := hide (show offO v (addT now v.ttl) S (seats.take (i + 1)) = ⟨R.gr ++ [⟨x, (sec : Nat), o, addT now v.ttl⟩], S', R.fr⟩ ∧ (⟨R.gr ++ [⟨x, (sec : Nat), o, addT now v.ttl⟩], S', R.fr⟩ : Rs).S.length = n ∧ Ok (⟨R.gr ++ [⟨x, (sec : Nat), o, addT now v.ttl⟩], S', R.fr⟩ : Rs).S ∧ ∀ k, (AsRf A B' vs' (⟨R.gr ++ [⟨x, (sec : Nat), o, addT now v.ttl⟩], S', R.fr⟩ : Rs).S).fp k → (AsRf A B₀ vs₀ S).fp k ∨ w.heap.size ≤ k from ⟨HNX2.out, HTL.out.1, HTL.out.2, HFP.out⟩)
          have K12 : Hid (Sep No w w10 (OfL w A B' vs' ⟨R.gr ++ [⟨x, (sec : Nat), o, addT now v.ttl⟩], S', R.fr⟩ vg' vf g5 g9 g8 g4 n c d' v Av cv)) := hide K11.tail.tail
          clear K11
          go_wp2_with fail
          try go_frame
          go_roundw
          case rel => exact ⟨i + 1, _, B', d', vs', vg', vf, by go_num, HLT.out, HI2, K12⟩
          case measure => have := HLT.out; simp [intOf]; omega
    · have hli : ¬ (i : Int) < (seats.length : Int) := by omega
      obtain rfl : i = seats.length := by omega
      have K4 := K3.out
      clear hlt K3
      have hrf := over_get K4 (A := AsRf A B vs R.S) (List.Mem.head _)
      have hvg := ownMOne (K4.ownsM (e := 43) (k := 4) (v := vg) (List.Mem.tail _ (List.Mem.head _)))
      have hvf := ownOne (K4.owns (e := 3) (v := vf) (List.Mem.tail _ (List.Mem.tail _ (List.Mem.head _))))
      have HV := hide (rsC_one (show (Value.slice none 0 0).oneCell' = true from rfl) hvg (show (Value.slice B n d).oneCell' = true from rfl) hvf)
      obtain ⟨c0, c1, cz⟩ := q2 (K4.blk (g := g5) (e := 82) (cs := lsC A B n c n d) (List.Mem.tail _ (List.Mem.tail _ (List.Mem.tail _ (List.Mem.head _)))))
      have hl9 := (K4.blk (g := g9) (e := 34) (cs := [.slice none 0 0, vg, .slice none 0 0, vf]) (List.Mem.tail _ (List.Mem.tail _ (List.Mem.tail _ (List.Mem.tail _ (List.Mem.head _)))))).lt
      clear hrf hvg hvf
      have tok3 : True := trivial
      have tok4 : True := trivial
      have tok5 : True := trivial
      go_wp2_with (first
        | (have zz := tok3; clear zz tok3; refine wpList_st1S [_, _, _, _] K4 rfl 25 (.tmp 76) (.tmp 75) rfl (i := 2) (v := .slice B n d) rfl rfl (by kernel_rfl) (show 2 < 4 by decide) rfl ?_; intro w5 K5; dsimp only [List.nil_append, List.cons_append, List.set] at K5; clear K4 c0 c1 cz hl9)
        | (have zz := tok4; clear zz tok4; refine wpList_ldS K5 (List.Mem.tail _ (List.Mem.tail _ (List.Mem.tail _ (List.Mem.tail _ (List.Mem.head _))))) rfl 34 (.tmp 9) rfl rfl _ Tryz.underlying34 rfl (by kernel_rfl) ?_)
        | (have zz := tok5; clear zz tok5; refine wpList_stS [_, _, _, _, _] K5 rfl 34 (.tmp 8) (.tmp 77) rfl rfl (cs := [.slice none 0 0, vg, .slice B n d, vf]) rfl (by kernel_rfl) rfl HV.out ?_; intro w6 K6; dsimp only [List.nil_append, List.cons_append] at K6; clear K5))
      refine bodyPost_ret (v := .agg #[.slice none 0 0, vg, .slice B n d, vf]) (results_c rfl _ _ g8 34 [.slice none 0 0, vg, .slice B n d, vf] _ rfl (K6.blk (g := g8) (e := 34) (List.Mem.tail _ (List.Mem.tail _ (List.Mem.tail _ (List.Mem.tail _ (List.Mem.tail _ (List.Mem.head _))))))) Tryz.underlying34 rfl (by kernel_rfl)) rfl ?_
      have hR := HI.out.1
      rw [List.take_length] at hR
      rw [hR]
      refine ⟨vg, vf, B, d, vs, ?_, K6.sub (.cons_cons _ (.cons_cons _ (.cons_cons _ (List.nil_sublist _)))), HI.out.2.2.2⟩
      rw [HN0.out]
end Go.Proofs.YtdmaephmkfmehaaGreatDoor
namespace Go.Proofs.YtdmaephmkfmehaaGreatDoor
open Go.RowKit Go.Gr Go.Hp Go.Ad Go.Wl Go.Pm
set_option linter.unusedVariables false
set_option linter.unusedSimpArgs false
attribute [local go_sem] rdOp rdAt rdUpon Cls forall_fr
theorem plE_four {v : Vn} (hz : (chk v).2 = 0) {x : Int} (h : plE v x ≠ 0) : plE v x = 4 := by
  unfold plE at h ⊢
  rw [if_neg (by simpa using hz)] at h ⊢
  split
  · rfl
  · rename_i h1
    rw [if_neg h1] at h
    exact absurd rfl h
/-- what the reference's offered answered, kept -/
theorem res_pt' {y : World} {A B : Option Addr} {vs : List Value} {R : Rs} {vg vf : Value} {n d : Nat} (hrf : (AsRf A B vs R.S).p y) (hg : OwnM y 43 4 vg (gtV R.gr)) (hf : Go.Gr.Own 0 y 3 vf (i64s R.fr)) (E : Option Addr) (ce : Nat) (en : List Ho) (hE : RdM y E 2 (hoV en)) (he : en.length ≤ ce) (hn : R.S.length = n) :
    IsRes false y (.agg #[.slice E en.length ce, vg, .slice B n d, vf]) ⟨en, R.gr, rowsS R.S, R.fr⟩ := by
  obtain ⟨G', cg, rfl, e1, e2, -⟩ := hg.form
  obtain ⟨F, cf, rfl, e3, e4, -⟩ := hf.form
  rw [gtV_len] at e2 ⊢
  rw [i64s_len] at e4 ⊢
  have hrl : (rowsS R.S).length = n := by rw [rowsS_len, hn]
  refine ⟨E, G', B, F, ce, cg, d, cf, vs, ?_, he, e2, (fun hq => by cases hq), e4, hE, e1, hrf.2, e3⟩
  rw [hrl]

set_option maxRecDepth 100000 in
set_option maxHeartbeats 4000000 in
theorem roffer_any (v : Vn) (A : Option Addr) (c : Nat) (rows : List (List Int)) (B : Option Addr) (vs : List Value) (d : Nat) (seats : List Int) (C : Option Addr) (cs : Nat) (now : Int) (w : World) (h : Secs w A v.secs) (hc : v.secs.length ≤ c) (hw : VnW v) (hB : (AsRows B vs rows).p w) (hrm : rows.length ≤ 100000) (hrl : ∀ r ∈ rows, r.length ≤ 1000000 ∧ ∀ x ∈ r, 0 ≤ x ∧ x < 4294967296) (hnow : now ≤ 9223372036854775807) (hC : Rd w C (i64s seats)) (hls : seats.length ≤ cs) (hl : seats.length ≤ 9000) (hSok : opE v rows now = 0 → Ok (loadS (qs v) rows)) :
    Calls Tryz.prog 16 #[.agg #[.int .i64 v.sh, .int .i64 v.ttl, .int .i64 v.ses, .slice A v.secs.length c], .slice B rows.length d, .slice C seats.length cs, .int .i64 now] w (ResQ false w (offE v rows seats now) (offA v rows seats now)) := by
  have HOP := hide (fun (y : World) (k : Ext w y) => house_any v A c rows B vs d now y (h.ext k) hc hw (asRows_x hB k) hrm hrl)
  have HPL := hide (fun (x : Int) (y : World) (k : Ext w y) => rplace v A c x y (h.ext k) hc hw)
  have HOF := hide (fun (hz : (chk v).2 = 0) (S : St) (A' B' : Option Addr) (vs' : List Value) (c' d' : Nat) (y : World) (k : Ext w y) (hrf : (AsRf A' B' vs' S).p y) (hok : Ok S) (hn0 : 0 ≤ now) => offered_any v A c S A' B' vs' c' d' seats C cs now y (h.ext k) hc hw hz hrf hok (hC.ext k) hls hl hn0 hnow)
  have HSE := hide (fun (y : World) (k : Ext w y) => hC.ext k)
  have HL := hide hl
  have HC := hide hls
  have HSO := hide hSok
  have hl2 : (seats.length : Int) ≤ 9000 := by omega
  clear h hc hw hB hrl hC hl hls hSok
  have K0 := (Sep.refl No w).add 24 (vnC v A c)
  have tok1 : True := trivial
  go_enter Tryz.func16, Tryz.ntmps16
  go_upto_region 1 with (have zz := tok1; clear zz tok1; refine wpList_alS K0 rfl 34 rfl (rsC none none none none 0 0 0 0 0 0 0 0) (by kernel_rfl) ?_; intro w1 hz1 K1; clear hz1 K0)
  obtain ⟨g4, G4⟩ : ∃ g, w.heap.size = g := ⟨_, rfl⟩
  obtain ⟨g8, G8⟩ : ∃ g, (w.alloc (.cells (vnC v A c).toArray 24)).heap.size = g := ⟨_, rfl⟩
  rw [G4, G8] at K1
  try rw [show w.heap.size + 1 = g8 by rw [← G8]; simp]
  try rw [G8]
  rw [G4]
  clear G4 G8
  obtain ⟨c0, c1, c2, c3, cz⟩ := blk4 (K1.blk (g := g4) (e := 24) (List.Mem.tail _ (List.Mem.head _)))
  have K2 := hide K1
  clear K1
  go_wp2_with fail
  (with_reducible refine (HOP.out _ K2.out.toExt).mono ?_)
  rintro e w2 ⟨hx, ⟨h0, A', B', c', d', vs', rfl, hS⟩ | ⟨h0, A', B', n', c', m', d', rfl⟩⟩
  rotate_left
  · have K3 := K2.out.ext hx
    have HE : Hid (offE v rows seats now = opE v rows now) := hide (offE_open h0)
    have HA := hide (offA_bad HE.out h0)
    have hb : (opE v rows now != 0) = true := bne_iff_ne.2 h0
    clear K2 hx c0 c1 c2 c3 cz h0
    have tok2 : True := trivial
    have tok3 : True := trivial
    have tok4 : True := trivial
    go_wp2_with (first
      | (have zz := tok3; clear zz tok3; refine wpList_alS K3 rfl 82 rfl (lsC none none 0 0 0 0) (by kernel_rfl) ?_; intro w5 hz5 K6; clear hz5 K3)
      | (have zz := tok4; clear zz tok4; refine wpList_stS [] K6 rfl 82 (.tmp 10) (.tmp 19) rfl rfl (cs := lsC A' B' n' c' m' d') rfl (by kernel_rfl) rfl (lsC_one _ _ _ _ _ _) ?_; intro w6 K7; dsimp only [List.nil_append] at K7; clear K6)
      | (have zz := tok2; clear zz tok2; refine wpList_stS [_] K7 rfl 34 (.tmp 8) (.tmp 23) rfl rfl (cs := rsC none none none none 0 0 0 0 0 0 0 0) rfl (by kernel_rfl) rfl (rsC_one rfl rfl rfl rfl) ?_; intro w4 K4; dsimp only [List.nil_append, List.cons_append] at K4; clear K7))
    refine bodyPost_ret (v := .tuple #[.agg (rsC none none none none 0 0 0 0 0 0 0 0).toArray, .int .i64 (opE v rows now)]) (results_ct rfl _ _ g8 34 (rsC none none none none 0 0 0 0 0 0 0 0) _ rfl (K4.blk (g := g8) (e := 34) (List.Mem.tail _ (List.Mem.head _))) Tryz.underlying34 rfl (by kernel_rfl) rfl) rfl ?_
    rw [HE.out, HA.out]
    exact (resQ_none K4.toExt).elim fun F hF => ⟨_, F, rfl, hF⟩
  have HE := hide (offE_go (seats := seats) h0)
  have H0 := hide h0
  have HZ := hide (opE_zero h0)
  have HOK := hide (HSO.out h0)
  obtain ⟨S, hSS⟩ : ∃ S, loadS (qs v) rows = S := ⟨_, rfl⟩
  have HSS := hide hSS
  rw [hSS] at hS HOK ⊢
  have K3 := K2.out.joinW hS
  dsimp only [List.cons_append, List.nil_append] at K3
  clear K2 hS h0 c0 c1 c2 c3 cz hSS hx HSO
  have tok3 : True := trivial
  have tok4 : True := trivial
  go_upto_region 2 with (first
    | (have zz := tok3; clear zz tok3; refine wpList_alS K3 rfl 82 rfl (lsC none none 0 0 0 0) (by kernel_rfl) ?_; intro w5 hz5 K6; clear hz5 K3)
    | (have zz := tok4; clear zz tok4; refine wpList_stS [] K6 rfl 82 (.tmp 10) (.tmp 19) rfl rfl (cs := lsC A' B' S.length c' S.length d') rfl (by kernel_rfl) rfl (lsC_one _ _ _ _ _ _) ?_; intro w6 K7; dsimp only [List.nil_append] at K7; clear K6))
  obtain ⟨g10, G10⟩ : ∃ g, w2.heap.size = g := ⟨_, rfl⟩
  rw [G10] at K7 ⊢
  clear G10
  have K8 := hide K7
  clear K7
  go_wp2_with fail
  go_loopw [12] (fun v12 wr => ∃ i : Nat, v12 = .int .i64 i ∧ i ≤ seats.length ∧ Hid (offE v rows seats now = seatsG v (seats.take i) (seats.drop i)) ∧ Hid (Sep No w wr [As.blk g10 82 (lsC A' B' S.length c' S.length d'), AsRf A' B' vs' S, As.blk g8 34 (rsC none none none none 0 0 0 0 0 0 0 0), As.blk g4 24 (vnC v A c)])) (fun v12 _ => seats.length - (intOf v12).toNat)
  case atStart => exact ⟨0, rfl, Nat.zero_le _, HE, K8⟩
  case round =>
    clear K8 HE
    obtain ⟨i, rfl, hil, HE, K4⟩ := hrel
    have hi9 : i ≤ 9000 := by have := HL.out; omega
    by_cases hlt : i < seats.length
    · have hli : (i : Int) < (seats.length : Int) := by omega
      have hic : (i : Int) < (cs : Int) := by have := HC.out; omega
      obtain ⟨x, hx⟩ : ∃ x, seats[i] = x := ⟨_, rfl⟩
      have HX0 := hide (fun (y : World) (k : Ext w y) => i64s_at (HSE.out y k) hlt)
      rw [hx] at HX0
      obtain ⟨ad, rfl, hx0⟩ := HX0.out w (Ext.refl w)
      have HX : Hid (∀ y, Ext w y → y.cell? (ad.add i) = some (.int .i64 x)) := hide (fun y k => by
        obtain ⟨_, e1, h1⟩ := HX0.out y k
        cases e1
        exact h1)
      have HXS : Hid (seats[i]? = some x) := hide (by rw [List.getElem?_eq_getElem hlt, hx])
      have HPL1 := hide (HPL.out x)
      obtain ⟨pl, hpl⟩ : ∃ p, plE v x = p := ⟨_, rfl⟩
      have HPL2 : Hid (plE v x = pl ∧ (pl = 0 ∨ pl = 4)) := hide ⟨hpl, by
        by_cases e : plE v x = 0
        · exact .inl (hpl.symm.trans e)
        · exact .inr (hpl.symm.trans (plE_four HZ.out.1 e))⟩
      rw [hpl] at HPL1
      have HLT := hide hlt
      clear hx hx0 HX0 hlt hpl
      go_upto_region 7 with fail
      refine wp_region_wm [0, 1, 2, 3, 4, 5, 6, 7, 8, 9] (by kernel_rfl) (by kernel_rfl) (by kernel_rfl) (by kernel_rfl) ?_
      have KD := K4.out.drew
      clear K4
      generalize wr.drew = wd at *
      have hbv := (KD.blk (g := g4) (e := 24) (List.Mem.tail _ (List.Mem.tail _ (List.Mem.tail _ (List.Mem.head _))))).at5
      have x0 := HX.out _ KD.toExt
      refine wm_ldX rfl rfl 24 (.tmp 4) rfl hbv rfl _ Tryz.underlying24 rfl (by kernel_rfl) ?_
      iterate 3 (refine wm_rd rfl rfl (fun K hK => ?_); go_simp; refine hK _ ?_; clear hK K)
      refine wm_ld1 rfl rfl 3 (.tmp 35) rfl rfl x0 _ Tryz.underlying3 rfl ?_
      refine wm_ext rfl rfl (fun K hK => ?_)
      go_simp
      go_at_call 34
      (with_reducible refine (HPL1.out _ KD.toExt).mono ?_)
      rintro e w7 ⟨rfl, hx⟩
      refine hK _ _ hx ?_
      clear hK K hbv x0
      have K5 := hide (KD.ext hx)
      clear hx KD
      iterate 4 (refine wm_rd rfl rfl (fun K hK => ?_); go_simp; refine hK _ ?_; clear hK K)
      refine wm_nil ?_
      go_wp2_with fail
      go_loopw [11, 13] (fun v11 v13 wr => ∃ (k : Nat) (e : Int), v13 = .int .i64 k ∧ v11 = .int .i64 e ∧ k ≤ i ∧ (e = 0 ∨ e = 8 ∨ e = 4) ∧ Hid ((e = 0 ∧ plE v x = 0 ∧ x ∉ seats.take k) ∨ (e = 8 ∧ plE v x = 0 ∧ x ∈ seats.take i) ∨ (e = 4 ∧ plE v x ≠ 0)) ∧ Hid (Sep No w wr [As.blk g10 82 (lsC A' B' S.length c' S.length d'), AsRf A' B' vs' S, As.blk g8 34 (rsC none none none none 0 0 0 0 0 0 0 0), As.blk g4 24 (vnC v A c)])) (fun v11 v13 _ => i - (intOf v13).toNat)
      case atStart =>
        rcases HPL2.out.2 with e | e
        · exact ⟨0, pl, rfl, rfl, Nat.zero_le _, .inl e, hide (.inl ⟨e, HPL2.out.1.trans e, by simp⟩), K5⟩
        · exact ⟨0, pl, rfl, rfl, Nat.zero_le _, .inr (.inr e), hide (.inr (.inr ⟨e, by rw [HPL2.out.1, e]; decide⟩)), K5⟩
      case round =>
        clear K5
        obtain ⟨k, e, rfl, rfl, hki, he, HV, K6⟩ := hrel
        rcases he with rfl | rfl | rfl
        · by_cases hk : k < i
          · have hkI : (k : Int) < (i : Int) := by omega
            have hkl : (k : Int) < (seats.length : Int) := by omega
            have hkc : (k : Int) < (cs : Int) := by omega
            obtain ⟨y, hy⟩ : ∃ y, seats[k]'(by have := HLT.out; omega) = y := ⟨_, rfl⟩
            have HYS : Hid (seats[k]? = some y) := hide (by rw [List.getElem?_eq_getElem (by have := HLT.out; omega), hy])
            go_upto_region 11 with fail
            refine wp_region_wm [0, 1, 2, 3, 4, 5, 6, 7, 8] (by kernel_rfl) (by kernel_rfl) (by kernel_rfl) (by kernel_rfl) ?_
            have K7 := hide K6.out.drew
            clear K6
            generalize World.drew _ = wd at *
            have x0 := HX.out _ K7.out.toExt
            obtain ⟨_, e1, y0⟩ := i64s_at (HSE.out _ K7.out.toExt) (k := k) (by have := HLT.out; omega)
            cases e1
            rw [hy] at y0
            iterate 3 (refine wm_rd rfl rfl (fun K hK => ?_); go_simp; refine hK _ ?_; clear hK K)
            refine wm_ld1 rfl rfl 3 (.tmp 51) rfl rfl y0 _ Tryz.underlying3 rfl ?_
            iterate 3 (refine wm_rd rfl rfl (fun K hK => ?_); go_simp; refine hK _ ?_; clear hK K)
            refine wm_ld1 rfl rfl 3 (.tmp 55) rfl rfl x0 _ Tryz.underlying3 rfl ?_
            clear x0 y0 hy
            have HV1 := HV.out
            have HK := hide hk
            clear HV hk
            by_cases hyx : y = x
            · have hb : (y == x) = true := beq_iff_eq.2 hyx
              iterate 1 (refine wm_rd rfl rfl (fun K hK => ?_); go_simp; refine hK _ ?_; clear hK K)
              refine wm_nil ?_
              have HV2 : Hid ((8 : Int) = 0 ∧ plE v x = 0 ∧ x ∉ seats.take (k + 1) ∨ (8 : Int) = 8 ∧ plE v x = 0 ∧ x ∈ seats.take i ∨ (8 : Int) = 4 ∧ plE v x ≠ 0) := hide (.inr (.inl ⟨rfl, by
                rcases HV1 with h | h | h
                · exact h.2.1
                · exact h.2.1
                · exact absurd h.1 (by decide), by
                refine List.mem_of_getElem? (i := k) ?_
                rw [List.getElem?_take, if_pos HK.out, HYS.out, hyx]⟩))
              clear HV1 hyx
              go_wp2_with fail
              go_roundw
              case rel => exact ⟨k + 1, 8, by go_num, rfl, HK.out, .inr (.inl rfl), HV2, K7⟩
              case measure => have := HK.out; simp [intOf]; omega
            · have hb : (y == x) = false := beq_eq_false_iff_ne.2 hyx
              iterate 1 (refine wm_rd rfl rfl (fun K hK => ?_); go_simp; refine hK _ ?_; clear hK K)
              refine wm_nil ?_
              have HV2 : Hid ((0 : Int) = 0 ∧ plE v x = 0 ∧ x ∉ seats.take (k + 1) ∨ (0 : Int) = 8 ∧ plE v x = 0 ∧ x ∈ seats.take i ∨ (0 : Int) = 4 ∧ plE v x ≠ 0) := hide (by
                rcases HV1 with h | h | h
                · refine .inl ⟨rfl, h.2.1, ?_⟩
                  rw [List.take_add_one, HYS.out]
                  intro hm
                  rcases List.mem_append.1 hm with h1 | h1
                  · exact h.2.2 h1
                  · simp at h1; exact hyx h1.symm
                · exact absurd h.1 (by decide)
                · exact absurd h.1 (by decide))
              clear HV1 hyx
              go_wp2_with fail
              go_roundw
              case rel => exact ⟨k + 1, 0, by go_num, rfl, HK.out, .inl rfl, HV2, K7⟩
              case measure => have := HK.out; simp [intOf]; omega
          · have hkI : ¬ (k : Int) < (i : Int) := by omega
            obtain rfl : k = i := by omega
            have HE2 : Hid (offE v rows seats now = seatsG v (seats.take (k + 1)) (seats.drop (k + 1))) := hide (by
              rw [HE.out]
              rcases HV.out with h | h | h
              · exact seatsG_next HXS.out h.2.1 h.2.2
              · exact absurd h.1 (by decide)
              · exact absurd h.1 (by decide))
            clear hk HV
            go_wp2_with fail
            go_roundw
            case rel => exact ⟨k + 1, by go_num, HLT.out, HE2, K6⟩
            case measure => have := HLT.out; simp [intOf]; omega
        · have HE2 : Hid (offE v rows seats now = 8) := hide (by
            rw [HE.out]
            rcases HV.out with h | h | h
            · exact absurd h.1 (by decide)
            · exact seatsG_twice HXS.out h.2.1 h.2.2
            · exact absurd h.1 (by decide))
          have HA := hide (offA_bad HE2.out (by decide))
          have K7 := K6.out
          clear HV K6
          by_cases hk : k < i
          · have hkI : (k : Int) < (i : Int) := by omega
            have tok2 : True := trivial
            go_wp2_with (have zz := tok2; clear zz tok2; refine wpList_stS [_, _] K7 rfl 34 (.tmp 8) (.tmp 60) rfl rfl (cs := rsC none none none none 0 0 0 0 0 0 0 0) rfl (by kernel_rfl) rfl (rsC_one rfl rfl rfl rfl) ?_; intro w9 K9; dsimp only [List.nil_append, List.cons_append] at K9; clear K7)
            refine bodyPost_ret (v := .tuple #[.agg (rsC none none none none 0 0 0 0 0 0 0 0).toArray, .int .i64 8]) (results_ct rfl _ _ g8 34 (rsC none none none none 0 0 0 0 0 0 0 0) _ rfl (K9.blk (g := g8) (e := 34) (List.Mem.tail _ (List.Mem.tail _ (List.Mem.head _)))) Tryz.underlying34 rfl (by kernel_rfl) rfl) rfl ?_
            rw [HE2.out, HA.out]
            exact (resQ_none K9.toExt).elim fun F hF => ⟨_, F, rfl, hF⟩
          · have hkI : ¬ (k : Int) < (i : Int) := by omega
            have tok2 : True := trivial
            go_wp2_with (have zz := tok2; clear zz tok2; refine wpList_stS [_, _] K7 rfl 34 (.tmp 8) (.tmp 60) rfl rfl (cs := rsC none none none none 0 0 0 0 0 0 0 0) rfl (by kernel_rfl) rfl (rsC_one rfl rfl rfl rfl) ?_; intro w9 K9; dsimp only [List.nil_append, List.cons_append] at K9; clear K7)
            refine bodyPost_ret (v := .tuple #[.agg (rsC none none none none 0 0 0 0 0 0 0 0).toArray, .int .i64 8]) (results_ct rfl _ _ g8 34 (rsC none none none none 0 0 0 0 0 0 0 0) _ rfl (K9.blk (g := g8) (e := 34) (List.Mem.tail _ (List.Mem.tail _ (List.Mem.head _)))) Tryz.underlying34 rfl (by kernel_rfl) rfl) rfl ?_
            rw [HE2.out, HA.out]
            exact (resQ_none K9.toExt).elim fun F hF => ⟨_, F, rfl, hF⟩
        · have HE2 : Hid (offE v rows seats now = 4) := hide (by
            rw [HE.out]
            rcases HV.out with h | h | h
            · exact absurd h.1 (by decide)
            · exact absurd h.1 (by decide)
            · exact seatsG_none HXS.out h.2)
          have HA := hide (offA_bad HE2.out (by decide))
          have K7 := K6.out
          clear HV K6
          by_cases hk : k < i
          · have hkI : (k : Int) < (i : Int) := by omega
            have tok2 : True := trivial
            go_wp2_with (have zz := tok2; clear zz tok2; refine wpList_stS [_, _] K7 rfl 34 (.tmp 8) (.tmp 60) rfl rfl (cs := rsC none none none none 0 0 0 0 0 0 0 0) rfl (by kernel_rfl) rfl (rsC_one rfl rfl rfl rfl) ?_; intro w9 K9; dsimp only [List.nil_append, List.cons_append] at K9; clear K7)
            refine bodyPost_ret (v := .tuple #[.agg (rsC none none none none 0 0 0 0 0 0 0 0).toArray, .int .i64 4]) (results_ct rfl _ _ g8 34 (rsC none none none none 0 0 0 0 0 0 0 0) _ rfl (K9.blk (g := g8) (e := 34) (List.Mem.tail _ (List.Mem.tail _ (List.Mem.head _)))) Tryz.underlying34 rfl (by kernel_rfl) rfl) rfl ?_
            rw [HE2.out, HA.out]
            exact (resQ_none K9.toExt).elim fun F hF => ⟨_, F, rfl, hF⟩
          · have hkI : ¬ (k : Int) < (i : Int) := by omega
            have tok2 : True := trivial
            go_wp2_with (have zz := tok2; clear zz tok2; refine wpList_stS [_, _] K7 rfl 34 (.tmp 8) (.tmp 60) rfl rfl (cs := rsC none none none none 0 0 0 0 0 0 0 0) rfl (by kernel_rfl) rfl (rsC_one rfl rfl rfl rfl) ?_; intro w9 K9; dsimp only [List.nil_append, List.cons_append] at K9; clear K7)
            refine bodyPost_ret (v := .tuple #[.agg (rsC none none none none 0 0 0 0 0 0 0 0).toArray, .int .i64 4]) (results_ct rfl _ _ g8 34 (rsC none none none none 0 0 0 0 0 0 0 0) _ rfl (K9.blk (g := g8) (e := 34) (List.Mem.tail _ (List.Mem.tail _ (List.Mem.head _)))) Tryz.underlying34 rfl (by kernel_rfl) rfl) rfl ?_
            rw [HE2.out, HA.out]
            exact (resQ_none K9.toExt).elim fun F hF => ⟨_, F, rfl, hF⟩
    · have hli : ¬ (i : Int) < (seats.length : Int) := by omega
      obtain rfl : i = seats.length := by omega
      have HE2 : Hid (offE v rows seats now = 0) := hide (by rw [HE.out]; exact seatsG_end (Nat.le_refl _))
      clear hlt HE
      have K5 := K4.out.swap
      clear K4
      have HF := hide (HOF.out HZ.out.1 S A' B' vs' c' d' wr K5.toExt (K5.get (A := AsRf A' B' vs' S) (List.Mem.head _)) HOK.out HZ.out.2.2)
      obtain ⟨c0, c1, c2, c3, cz⟩ := blk4 (K5.blk (g := g4) (e := 24) (List.Mem.tail _ (List.Mem.tail _ (List.Mem.tail _ (List.Mem.head _)))))
      have tok3 : True := trivial
      go_wp2_with (have zz := tok3; clear zz tok3; refine wpList_ldS K5 (List.Mem.tail _ (List.Mem.head _)) rfl 82 (.tmp 10) rfl rfl _ Tryz.underlying82 rfl (by kernel_rfl) ?_)
      (with_reducible refine HF.out.mono ?_)
      rintro e w5 ⟨vg, vf, B2, d2, vs2, rfl, hS, hfp⟩
      have K6 := over_in K5 hS hfp
      dsimp only [List.cons_append, List.nil_append] at K6
      have hvg := ownMOne (K6.ownsM (e := 43) (k := 4) (v := vg) (List.Mem.tail _ (List.Mem.head _)))
      have hvf := ownOne (K6.owns (e := 3) (v := vf) (List.Mem.tail _ (List.Mem.tail _ (List.Mem.head _))))
      have HV := hide (rsC_one (show (Value.slice none 0 0).oneCell' = true from rfl) hvg (show (Value.slice B2 S.length d2).oneCell' = true from rfl) hvf)
      clear hvg hvf HF K5 hS hfp c0 c1 c2 c3 cz
      have tok2 : True := trivial
      go_wp2_with (have zz := tok2; clear zz tok2; refine wpList_stS [_, _, _, _] K6 rfl 34 (.tmp 8) (.tmp 66) rfl rfl (cs := [.slice none 0 0, vg, .slice B2 S.length d2, vf]) rfl (by kernel_rfl) rfl HV.out ?_; intro w6 K7; dsimp only [List.nil_append, List.cons_append] at K7; clear K6)
      refine bodyPost_ret (v := .tuple #[.agg #[.slice none 0 0, vg, .slice B2 S.length d2, vf], .int .i64 0]) (results_ct rfl _ _ g8 34 [.slice none 0 0, vg, .slice B2 S.length d2, vf] _ rfl (K7.blk (g := g8) (e := 34) (List.Mem.tail _ (List.Mem.tail _ (List.Mem.tail _ (List.Mem.tail _ (List.Mem.head _)))))) Tryz.underlying34 rfl (by kernel_rfl) rfl) rfl ?_
      rw [show offA v rows seats now = _ from if_pos HE2.out, HE2.out, HSS.out]
      obtain ⟨F, hF⟩ := res_as (bb := false) (M := [_, _, _]) K7 (fun y hp => res_pt' (R := offO v (addT now v.ttl) S seats) (n := S.length) (d := d2) (hp _ (List.Mem.head _)) (hp _ (List.Mem.tail _ (List.Mem.head _))) (hp _ (List.Mem.tail _ (List.Mem.tail _ (List.Mem.head _)))) none 0 [] (rdm_nil _ _ _) (Nat.le_refl _) (offO_len _ _ _ _))
      exact ⟨_, F, rfl, hF.sub (.cons_cons _ (List.nil_sublist _))⟩
end Go.Proofs.YtdmaephmkfmehaaGreatDoor
