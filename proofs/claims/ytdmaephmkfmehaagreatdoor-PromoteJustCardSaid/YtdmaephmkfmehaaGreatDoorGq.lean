/- Texts put together: Z9 Z10. -/
import Derived.Test.YtdmaephmkfmehaaGreatDoorGp
namespace Go.Pm
open Go.Wl
theorem first_take {S : St} {i : Int} (h : (firstS S i).2 = 0) : (takeS S i).2.2 = 0 := by
  unfold firstS at h
  unfold takeS
  split at h
  · cases h
  · rename_i h1
    rw [if_neg h1]
    split at h
    · cases h
    · rename_i h2
      rw [if_neg h2]
end Go.Pm
namespace Go.Proofs.YtdmaephmkfmehaaGreatDoor
open Go.RowKit Go.Gr Go.Hp Go.Ad Go.Wl Go.Pm
set_option linter.unusedVariables false
set_option linter.unusedSimpArgs false
attribute [local go_sem] rdOp rdAt rdUpon Cls forall_fr
/-- the cells of a step -/
abbrev spC (x : Sp) : List Value := [.int .i64 x.kind, .int .i64 x.sec, .int .u32 x.own]
theorem spC_one (x : Sp) : ∀ u ∈ spC x, u.oneCell' = true := by
  intro u hu
  simp only [spC, List.mem_cons, List.not_mem_nil, or_false] at hu
  rcases hu with rfl | rfl | rfl <;> rfl
def spV (l : List Sp) : List (List Value) := l.map spC
theorem spV_len (l : List Sp) : (spV l).length = l.length := by simp [spV]
theorem spV_at {l : List Sp} {i : Nat} {x : Sp} (h : l[i]? = some x) : (spV l)[i]? = some (spC x) := by simp [spV, h]
theorem spV_pos (l : List Sp) : ∀ r ∈ spV l, 0 < r.length := fun r hr => by
  obtain ⟨x, _, rfl⟩ := List.mem_map.1 hr
  exact Nat.succ_pos _
theorem sp_at {w : World} {A : Option Addr} {l : List Sp} (h : RdM w A 3 (spV l)) {i : Nat} {x : Sp} (hx : l[i]? = some x) : ∃ g off, A = some ⟨g, off, none⟩ ∧ At5 w g (off + i * 3) (spC x) := h.at5 (spV_pos l) (spV_at hx)
/-- what becomes of lists -/
def DoR (G : Nat → Prop) (w0 : World) (L : List As) (g gr : Nat) (S' : St) (E : Int) (e : Ending) (w' : World) : Prop := e = .returned (.int .i64 E) ∧ Sep G w0 w' (AsLs g gr S' :: L)

set_option maxRecDepth 100000 in
set_option maxHeartbeats 4000000 in
theorem do_any {G : Nat → Prop} {w0 w : World} {L : List As} {g gr : Nat} {S : St} (x : Sp) (ho : 0 ≤ x.own ∧ x.own < 4294967296) (H : Sep G w0 w (AsLs g gr S :: L)) :
    Calls Tryz.prog 32 #[pt g, .agg #[.int .i64 x.kind, .int .i64 x.sec, .int .u32 x.own]] w (DoR G w0 L g gr (doS S x).1 (doS S x).2) := by
  obtain ⟨kd, sec, own⟩ := x
  dsimp only at ho ⊢
  have K0 := hide (H.add 49 [.int .i64 kd, .int .i64 sec, .int .u32 own])
  clear H
  by_cases k1 : kd = 1
  · subst k1
    have HJ := hide (join_any (i := sec) (K0.out.get (A := AsLs g gr S) (List.Mem.tail _ (List.Mem.head _))) ho)
    have HE : Hid (doS S ⟨1, sec, own⟩ = ((joinS S sec own).1, (joinS S sec own).2.2)) := hide rfl
    go_enter Tryz.func32, Tryz.ntmps32
    go_upto_region 1 with fail
    generalize w.alloc _ = w1 at *
    obtain ⟨g3, G3⟩ : ∃ g, w.heap.size = g := ⟨_, rfl⟩
    rw [G3] at K0 ⊢
    clear G3
    obtain ⟨b0, b1, b2, bz⟩ := blk3 (K0.out.blk (g := g3) (e := 49) (List.Mem.head _))
    go_wp2_with fail
    (with_reducible refine HJ.out.mono ?_)
    rintro e w2 ⟨rfl, hp, hu⟩
    have K1 := K0.out.upd (L1 := [_]) (B := AsLs g gr (joinS S sec own).1) (Fr.of_upd hu) (fun i hi => .inr hi) hp (fun i hi => .inl hi)
    have K2 := hide K1.tail
    clear K1 hp hu HJ K0 b0 b1 b2 bz
    go_wp2_with fail
    go_ret
    rw [HE.out]
    exact ⟨rfl, K2.out⟩
  by_cases k2 : kd = 2
  · subst k2
    have HJ := hide (leave_any (i := sec) (o := own) (K0.out.get (A := AsLs g gr S) (List.Mem.tail _ (List.Mem.head _))))
    have HE : Hid (doS S ⟨2, sec, own⟩ = leaveS S sec own) := hide rfl
    clear k1
    go_enter Tryz.func32, Tryz.ntmps32
    go_upto_region 1 with fail
    generalize w.alloc _ = w1 at *
    obtain ⟨g3, G3⟩ : ∃ g, w.heap.size = g := ⟨_, rfl⟩
    rw [G3] at K0 ⊢
    clear G3
    obtain ⟨b0, b1, b2, bz⟩ := blk3 (K0.out.blk (g := g3) (e := 49) (List.Mem.head _))
    go_wp2_with fail
    (with_reducible refine HJ.out.mono ?_)
    rintro e w2 ⟨rfl, hp, hu⟩
    have K1 := K0.out.upd (L1 := [_]) (B := AsLs g gr (leaveS S sec own).1) (Fr.of_upd hu) (fun i hi => .inr hi) hp (fun i hi => .inl hi)
    have K2 := hide K1.tail
    clear K1 hp hu HJ K0 b0 b1 b2 bz
    go_wp2_with fail
    go_ret
    rw [HE.out]
    exact ⟨rfl, K2.out⟩
  by_cases k3 : kd = 3
  · subst k3
    have HF := hide (wfirst_any (i := sec) (K0.out.get (A := AsLs g gr S) (List.Mem.tail _ (List.Mem.head _))))
    have HE : Hid (doS S ⟨3, sec, own⟩ = (if (firstS S sec).2 ≠ 0 then (S, (firstS S sec).2) else if (placeS S sec own).2 ≠ 0 then (S, 8) else if 1 < (placeS S sec own).1 then (S, 7) else ((takeS S sec).1, 0))) := hide rfl
    clear k1 k2
    go_enter Tryz.func32, Tryz.ntmps32
    go_upto_region 1 with fail
    generalize w.alloc _ = w1 at *
    obtain ⟨g3, G3⟩ : ∃ g, w.heap.size = g := ⟨_, rfl⟩
    rw [G3] at K0 ⊢
    clear G3
    obtain ⟨b0, b1, b2, bz⟩ := blk3 (K0.out.blk (g := g3) (e := 49) (List.Mem.head _))
    go_wp2_with fail
    (with_reducible refine HF.out.mono ?_)
    rintro e w2 ⟨rfl, hx⟩
    have K1 := hide (K0.out.ext hx)
    clear hx HF K0 b0 b1 b2 bz
    by_cases hf : (firstS S sec).2 = 0
    rotate_left
    · have hb : ((firstS S sec).2 != 0) = true := bne_iff_ne.2 hf
      have HE2 : Hid (doS S ⟨3, sec, own⟩ = (S, (firstS S sec).2)) := hide (by rw [HE.out, if_pos hf])
      clear hf HE
      go_wp2_with fail
      go_ret
      rw [HE2.out]
      exact ⟨rfl, K1.out.tail⟩
    have HTK := hide (first_take hf)
    have HE1 : Hid (doS S ⟨3, sec, own⟩ = (if (placeS S sec own).2 ≠ 0 then (S, 8) else if 1 < (placeS S sec own).1 then (S, 7) else ((takeS S sec).1, 0))) := hide (by rw [HE.out, if_neg (fun e => e hf)])
    rw [hf]
    clear hf HE
    have HP := hide (place_any (i := sec) (o := own) (K1.out.get (A := AsLs g gr S) (List.Mem.tail _ (List.Mem.head _))))
    obtain ⟨b0, b1, b2, bz⟩ := blk3 (K1.out.blk (g := g3) (e := 49) (List.Mem.head _))
    go_wp2_with fail
    (with_reducible refine HP.out.mono ?_)
    rintro e w3 ⟨rfl, hx⟩
    have K2 := hide (K1.out.ext hx)
    clear hx HP K1 b0 b1 b2 bz
    by_cases hf : (placeS S sec own).2 = 0
    rotate_left
    · have hb : ((placeS S sec own).2 != 0) = true := bne_iff_ne.2 hf
      have HE2 : Hid (doS S ⟨3, sec, own⟩ = (S, 8)) := hide (by rw [HE1.out, if_pos hf])
      clear hf HE1
      go_wp2_with fail
      go_ret
      rw [HE2.out]
      exact ⟨rfl, K2.out.tail⟩
    have HE2 : Hid (doS S ⟨3, sec, own⟩ = (if 1 < (placeS S sec own).1 then (S, 7) else ((takeS S sec).1, 0))) := hide (by rw [HE1.out, if_neg (fun e => e hf)])
    rw [hf]
    clear hf HE1
    by_cases hf : 1 < (placeS S sec own).1
    · have HE3 : Hid (doS S ⟨3, sec, own⟩ = (S, 7)) := hide (by rw [HE2.out, if_pos hf])
      clear HE2
      go_wp2_with fail
      go_ret
      rw [HE3.out]
      exact ⟨rfl, K2.out.tail⟩
    have HE3 : Hid (doS S ⟨3, sec, own⟩ = ((takeS S sec).1, 0)) := hide (by rw [HE2.out, if_neg hf])
    clear HE2
    have HT := hide (take_any (i := sec) (K2.out.get (A := AsLs g gr S) (List.Mem.tail _ (List.Mem.head _))))
    rw [HTK.out] at HT
    obtain ⟨b0, b1, b2, bz⟩ := blk3 (K2.out.blk (g := g3) (e := 49) (List.Mem.head _))
    go_wp2_with fail
    (with_reducible refine HT.out.mono ?_)
    rintro e w4 ⟨rfl, hp, hu⟩
    have K3 := K2.out.upd (L1 := [_]) (B := AsLs g gr (takeS S sec).1) (Fr.of_upd hu) (fun i hi => .inr hi) hp (fun i hi => .inl hi)
    have K4 := hide K3.tail
    clear K3 hp hu HT K2 b0 b1 b2 bz hf
    go_wp2_with fail
    go_ret
    rw [HE3.out]
    exact ⟨rfl, K4.out⟩
  · have e1 : (kd == 1) = false := beq_eq_false_iff_ne.2 k1
    have e2 : (kd == 2) = false := beq_eq_false_iff_ne.2 k2
    have e3 : (kd == 3) = false := beq_eq_false_iff_ne.2 k3
    have HE : Hid (doS S ⟨kd, sec, own⟩ = (S, 2)) := hide (by unfold doS; rw [if_neg k1, if_neg k2, if_neg k3])
    clear k1 k2 k3
    go_enter Tryz.func32, Tryz.ntmps32
    go_upto_region 1 with fail
    generalize w.alloc _ = w1 at *
    obtain ⟨g3, G3⟩ : ∃ g, w.heap.size = g := ⟨_, rfl⟩
    rw [G3] at K0 ⊢
    clear G3
    obtain ⟨b0, b1, b2, bz⟩ := blk3 (K0.out.blk (g := g3) (e := 49) (List.Mem.head _))
    go_wp2_with fail
    go_ret
    rw [HE.out]
    exact ⟨rfl, K0.out.tail⟩
end Go.Proofs.YtdmaephmkfmehaaGreatDoor
namespace Go.Proofs.YtdmaephmkfmehaaGreatDoor
open Go.RowKit Go.Gr Go.Hp Go.Ad Go.Wl Go.Pm
set_option linter.unusedVariables false
set_option linter.unusedSimpArgs false
attribute [local go_sem] rdOp rdAt rdUpon Cls forall_fr
/-- what Fair answers -/
def FairR (w : World) (r : Int × Int) (e : Ending) (w' : World) : Prop := e = .returned (.tuple #[.int .i64 r.1, .int .i64 r.2]) ∧ Ext w w'

set_option maxRecDepth 100000 in
set_option maxHeartbeats 4000000 in
theorem pfair_any (v : Vn) (A : Option Addr) (c : Nat) (l : List Sp) (C : Option Addr) (cs : Nat) (w : World) (h : Secs w A v.secs) (hc : v.secs.length ≤ c) (hw : VnW v) (hC : RdM w C 3 (spV l)) (ho : ∀ x ∈ l, 0 ≤ x.own ∧ x.own < 4294967296) (hls : l.length ≤ cs) (hl : l.length ≤ 1000000) :
    Calls Tryz.prog 15 #[.agg #[.int .i64 v.sh, .int .i64 v.ttl, .int .i64 v.ses, .slice A v.secs.length c], .slice C l.length cs] w (FairR w (fairE v l)) := by
  have HS := hide (fun (y : World) (k : Ext w y) => h.ext k)
  have HC := hide hc
  have HCC := hide (fun (y : World) (k : Ext w y) => hC.ext k)
  have HCK := hide (fun (y : World) (k : Ext w y) => venue_check v A c y (HS.out y k) hc hw)
  have HO := hide ho
  have HLS := hide hls
  have hl2 : (l.length : Int) ≤ 1000000 := by omega
  clear h hc hw hC ho hls
  have K0 := (Sep.refl No w).add 24 (vnC v A c)
  go_enter Tryz.func15, Tryz.ntmps15
  go_upto_region 1 with fail
  generalize w.alloc _ = w1 at K0 ⊢
  obtain ⟨g3, G3⟩ : ∃ g, w.heap.size = g := ⟨_, rfl⟩
  rw [G3] at K0 ⊢
  clear G3
  have K1 := hide K0
  clear K0
  obtain ⟨c0, c1, c2, c3, cz⟩ := blk4 (K1.out.blk (g := g3) (e := 24) (List.Mem.head _))
  go_wp2_with fail
  (with_reducible refine (HCK.out _ K1.out.toExt).mono ?_)
  rintro e w2 ⟨rfl, hx⟩
  have K2 := hide (K1.out.ext hx)
  clear K1 hx HCK c0 c1 c2 c3 cz
  by_cases hz : (chk v).2 = 0
  rotate_left
  · have HE : Hid (fairE v l = (-1, (chk v).2)) := hide (by unfold fairE; rw [if_pos hz])
    have hb : ((chk v).2 != 0) = true := bne_iff_ne.2 hz
    clear hz
    go_wp2_with fail
    go_ret2
    rw [HE.out]
    exact ⟨rfl, K2.out.toExt⟩
  obtain ⟨hok, hch⟩ := chk_zero hz
  have HZ := hide hz
  have h8 := hok.few
  have HQ := hide (fun (y : World) (k : Ext w y) => queues_any v A c y (HS.out y k) HC.out (by omega))
  have HQS : Hid (limE (qs v) = 0) := hide (qs_ok hok)
  rw [hch]
  clear hok hch hz
  by_cases hm : 1000 < l.length
  · have HE : Hid (fairE v l = (-1, 3)) := hide (by unfold fairE; rw [if_neg (fun e => e HZ.out), if_pos hm])
    have hmi : (1000 : Int) < (l.length : Int) := by omega
    clear hm
    go_wp2_with fail
    go_ret2
    rw [HE.out]
    exact ⟨rfl, K2.out.toExt⟩
  have HE : Hid (fairE v l = fairG (newS (qs v)) 0 (l.drop 0)) := hide (by unfold fairE; rw [if_neg (fun e => e HZ.out), if_neg hm]; rfl)
  have hmi : ¬ (1000 : Int) < (l.length : Int) := by omega
  have HM := hide hm
  clear hm
  obtain ⟨c0, c1, c2, c3, cz⟩ := blk4 (K2.out.blk (g := g3) (e := 24) (List.Mem.head _))
  go_wp2_with fail
  (with_reducible refine (HQ.out _ K2.out.toExt).mono ?_)
  rintro e w3 ⟨x, rfl, hS⟩
  have K3 := hide (K2.out.joinW hS)
  obtain ⟨A4, c4, rfl, hr4, -, -⟩ := (hS.owns (e := 3) (v := x) (List.Mem.head _)).form
  have HNW := hide (new_any (qs v) A4 c4 w3 hr4 (by rw [qs_len]; omega))
  rw [i64s_len]
  clear hS hr4 K2 HQ c0 c1 c2 c3 cz
  go_wp2_with fail
  (with_reducible refine HNW.out.mono ?_)
  rintro e w4 ⟨hg, -⟩
  obtain ⟨g, gr, rfl, hS4⟩ := hg HQS.out
  have K4 := hide (K3.out.joinW hS4)
  clear hg hS4 K3 HNW
  go_wp2_with fail
  go_loopw [34] (fun v34 wr => ∃ (i : Nat) (S : St), v34 = .int .i64 i ∧ i ≤ l.length ∧ Hid (fairE v l = fairG S i (l.drop i)) ∧ Hid (Sep No w wr [AsLs g gr S])) (fun v34 _ => l.length - (intOf v34).toNat)
  case atStart => exact ⟨0, newS (qs v), rfl, Nat.zero_le _, HE, hide (K4.out.sub (.cons_cons _ (List.nil_sublist _)))⟩
  case round =>
    clear K4 HE
    obtain ⟨i, S, rfl, hil, HE, K5⟩ := hrel
    have hi1000 : i ≤ 1000 := by have := HM.out; omega
    by_cases hlt : i < l.length
    · have hli : (i : Int) < (l.length : Int) := by omega
      have hic : (i : Int) < (cs : Int) := by have := HLS.out; omega
      obtain ⟨x, hx⟩ := some_of hlt
      obtain ⟨b, off, hA, hat⟩ := sp_at (HCC.out _ K5.out.toExt) hx
      subst hA
      have hxo := HO.out x (List.mem_of_getElem? hx)
      have HX := hide hx
      have HLT := hide hlt
      clear hx hlt
      have tok2 : True := trivial
      have tok3 : True := trivial
      have tok4 : True := trivial
      go_upto_region 12 with (first
        | (have zz := tok2; clear zz tok2; refine wpList_ldX rfl 49 (.tmp 37) rfl hat rfl _ Tryz.underlying49 rfl (by kernel_rfl) ?_)
        | (have zz := tok3; clear zz tok3; refine wpList_alS K5.out rfl 49 rfl [.int .i64 0, .int .i64 0, .int .u32 0] (by kernel_rfl) ?_; intro w5 hz5 K8; clear hz5 K5)
        | (have zz := tok4; clear zz tok4; refine wpList_stS [] K8 rfl 49 (.tmp 10) (.tmp 38) rfl rfl (cs := spC x) rfl (by kernel_rfl) rfl (spC_one x) ?_; intro w6 K9; dsimp only [List.nil_append] at K9; clear K8))
      obtain ⟨g10, G10⟩ : ∃ g, wr.heap.size = g := ⟨_, rfl⟩
      rw [G10] at K9 ⊢
      clear G10 hat
      obtain ⟨b0, b1, b2, bz⟩ := blk3 (K9.blk (g := g10) (e := 49) (cs := spC x) (List.Mem.head _))
      have HDO := hide (do_any x hxo K9.swap)
      obtain ⟨S', hS'⟩ : ∃ q, (doS S x).1 = q := ⟨_, rfl⟩
      obtain ⟨E, hE⟩ : ∃ q, (doS S x).2 = q := ⟨_, rfl⟩
      rw [hS', hE] at HDO
      have HSE := hide (And.intro hS' hE)
      clear hxo hS' hE K9
      go_wp2_with fail
      (with_reducible refine HDO.out.mono ?_)
      rintro e w7 ⟨rfl, K10⟩
      have K11 := hide (K10.sub (.cons_cons _ (List.nil_sublist _)))
      clear K10 HDO b0 b1 b2 bz
      by_cases hE : E = 0
      rotate_left
      · have hb : (E != 0) = true := bne_iff_ne.2 hE
        have HE2 : Hid (fairE v l = ((i : Int), E)) := hide (by rw [HE.out, fairG_bad HX.out (by rw [HSE.out.2]; exact hE), HSE.out.2])
        clear hE
        go_wp2_with fail
        go_ret2
        rw [HE2.out]
        exact ⟨rfl, K11.out.toExt⟩
      subst hE
      have HE2 : Hid (fairE v l = fairG S' (i + 1) (l.drop (i + 1))) := hide (by rw [HE.out, fairG_next HX.out HSE.out.2, HSE.out.1])
      go_wp2_with fail
      go_roundw
      case rel => exact ⟨i + 1, S', by go_num, HLT.out, HE2, K11⟩
      case measure => have := HLT.out; simp [intOf]; omega
    · have hli : ¬ (i : Int) < (l.length : Int) := by omega
      obtain rfl : i = l.length := by omega
      have HE2 : Hid (fairE v l = (-1, 0)) := hide (by rw [HE.out]; exact fairG_end (Nat.le_refl _))
      clear hlt
      go_wp2_with fail
      go_ret2
      rw [HE2.out]
      exact ⟨rfl, K5.out.toExt⟩
end Go.Proofs.YtdmaephmkfmehaaGreatDoor
