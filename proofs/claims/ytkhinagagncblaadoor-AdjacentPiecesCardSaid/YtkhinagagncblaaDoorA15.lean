/- Seats side by side: Best, by the program. -/
import Derived.Test.YtkhinagagncblaaDoorA14
namespace Go.Proofs.YtkhinagagncblaaDoor
open Go.RowKit Go.Gr Go.Ad
set_option linter.unusedVariables false
set_option linter.unusedSimpArgs false
attribute [local go_sem] rdOp rdAt rdUpon Cls forall_fr
/-- the first seat of the best choice, and what is wrong -/
def bestE (v : Vn) (f : List Bool) (s n : Int) : Int × Int :=
  if cE v f.length s n ≠ 0 then (0, cE v f.length s n) else match bestL (chs (runsOf v f s) n.toNat) with
    | none => (0, 15)
    | some x => (((x.1.first + x.2.1 : Nat) : Int), 0)
theorem bestL_mem {l : List (Run × Nat × Nat)} {x : Run × Nat × Nat} (h : bestL l = some x) : x ∈ l := by
  have key : ∀ (l : List (Run × Nat × Nat)) (o : Option (Run × Nat × Nat)) (x : Run × Nat × Nat), l.foldl stB o = some x → x ∈ l ∨ o = some x := by
    intro l
    induction l with
    | nil => intro o x h; exact .inr h
    | cons a l ih =>
      intro o x h
      rcases ih _ _ h with h1 | h1
      · exact .inl (by simp [h1])
      · cases o with
        | none => simp only [stB, Option.some.injEq] at h1; exact .inl (by simp [h1])
        | some y =>
          simp only [stB] at h1
          split at h1
          · simp only [Option.some.injEq] at h1; exact .inl (by simp [h1])
          · exact .inr h1
  rcases key l none x h with h1 | h1
  · exact h1
  · cases h1
theorem chs_mem {l : List Run} {n : Nat} {x : Run × Nat × Nat} (h : x ∈ chs l n) : x.1 ∈ l ∧ x.2.1 + n ≤ x.1.many ∧ x.2.2 = x.1.many - n - x.2.1 := by
  obtain ⟨r, hr, hx⟩ := List.mem_flatMap.1 h
  obtain ⟨k, hk, rfl⟩ := List.mem_map.1 hx
  have := List.mem_range.1 hk
  exact ⟨hr, by show k + n ≤ r.many; omega, rfl⟩
set_option maxRecDepth 100000 in
set_option maxHeartbeats 4000000 in
theorem ad_Best (v : Vn) (A : Option Addr) (c : Nat) (f : List Bool) (F : Option Addr) (d : Nat) (s n : Int) (w : World) (h : Secs w A v.secs) (hc : v.secs.length ≤ c) (hw : VnW v)
    (hF : Rd w F (bls f)) (hd : f.length ≤ d) :
    Calls Tryd.prog 19 #[.agg #[.int .i64 v.sh, .int .i64 v.ttl, .int .i64 v.ses, .slice A v.secs.length c], .slice F f.length d, .int .i64 s, .int .i64 n] w fun e w' =>
      e = .returned (.tuple #[.int .i64 (bestE v f s n).1, .int .i64 (bestE v f s n).2]) ∧ Ext w w' := by
  have HQ := hide (fun (y : World) (k : Ext w y) => ad_check v A c F f.length d s y (h.ext k) hc hw)
  have HR := hide (fun (y : World) (k : Ext w y) (hq : qE v f.length s = 0) => ad_runs' v A c f F d s y (h.ext k) hc hw (hF.ext k) hd hq)
  clear h hc hw hF hd
  have K0 := (Sep.refl No w).add 24 [.int .i64 v.sh, .int .i64 v.ttl, .int .i64 v.ses, .slice A v.secs.length c]
  go_enter Tryd.func19, Tryd.ntmps19
  go_wp2_with fail
  (with_reducible refine (HQ.out _ K0.toExt).mono ?_)
  rintro e w1 ⟨rfl, hx⟩
  have K1 := hide (K0.ext hx)
  clear K0 hx HQ
  obtain ⟨c0, c1, c2, c3, cz⟩ := blk4 (K1.out.blk (List.Mem.head _))
  by_cases hq : qE v f.length s = 0
  rotate_left
  · have HC : Hid (cE v f.length s n = qE v f.length s) := hide (by unfold cE; rw [if_pos hq])
    have HE : Hid (bestE v f s n = (0, qE v f.length s)) := hide (by unfold bestE; rw [HC.out, if_pos hq])
    have e1 : (qE v f.length s != 0) = true := bne_iff_ne.2 hq
    clear hq HR
    go_wp2_with fail
    refine bodyPost_ret (results_tmp2 rfl _ _ _) rfl ?_
    exact ⟨by rw [HE.out]; rfl, K1.out.toExt⟩
  have HRR := hide (HR.out w1 K1.out.toExt hq)
  have HFEW := hide (runsOf_few (qE_zero hq).1 f s)
  have HSML := hide (runs_small (qE_zero hq).1 (qE_zero hq).2.2.2.1 s)
  clear HR
  rw [hq]
  go_wp2_with fail
  (with_reducible refine (asked_any n w1).mono ?_)
  rintro e w2 ⟨rfl, rfl⟩
  cases ho : outB n 1 8
  rotate_left
  · have HC : Hid (cE v f.length s n = 7) := hide (by unfold cE; rw [if_neg (by simpa using hq), if_pos ho])
    have HE : Hid (bestE v f s n = (0, 7)) := hide (by unfold bestE; rw [HC.out]; rfl)
    clear hq HRR ho
    go_wp2_with fail
    refine bodyPost_ret (results_tmp2 rfl _ _ _) rfl ?_
    exact ⟨by rw [HE.out]; rfl, K1.out.toExt⟩
  have HC : Hid (cE v f.length s n = 0) := hide (by unfold cE; rw [if_neg (by simpa using hq), if_neg (by rw [ho]; simp)])
  obtain ⟨hn1, hn8⟩ := outB_false ho
  obtain ⟨n, rfl⟩ : ∃ k : Nat, n = k := ⟨n.toNat, by omega⟩
  have hn1' : 1 ≤ n := by omega
  have hn8' : n ≤ 8 := by omega
  have HE : Hid (bestE v f s (n : Int) = match bestL (chs (runsOf v f s) n) with
    | none => (0, 15)
    | some x => (((x.1.first + x.2.1 : Nat) : Int), 0)) := hide (by unfold bestE; rw [HC.out, if_neg (by simp), Int.toNat_natCast])
  clear hq ho hn1 hn8
  go_wp2_with fail
  (with_reducible refine HRR.out.mono ?_)
  rintro e w3 ⟨v', rfl, hS⟩
  have K3 := K1.out.joinW hS
  clear HRR hS c0 c1 c2 c3 cz K1
  obtain ⟨B, bc, rfl, hbc⟩ := nilM_form K3
  rw [runV_len] at K3 hbc ⊢
  obtain ⟨l, hl⟩ : ∃ l, runsOf v f s = l := ⟨_, rfl⟩
  rw [hl] at K3 hbc HFEW HSML HE
  rw [hl]
  clear hl
  have HB := hide (ad_best l B bc n w3 (K3.ownsM (List.Mem.head _)) HSML.out HFEW.out hn1' (by omega))
  have KK := hide K3.toExt
  clear K3
  go_wp2_with fail
  (with_reducible refine HB.out.mono ?_)
  rintro e w4 ⟨rfl, hx⟩
  have KX := hide (KK.out.trans hx)
  clear hx HB KK
  cases hb : bestL (chs l n) with
  | none =>
    rw [hb] at HE
    have HE2 : Hid (bestE v f s (n : Int) = (0, 15)) := hide HE.out
    clear hb
    dsimp only [choV]
    go_wp2_with fail
    refine bodyPost_ret (results_tmp2 rfl _ _ _) rfl ?_
    exact ⟨by rw [HE2.out]; rfl, KX.out.trans ((Ext.refl w4).alloc _)⟩
  | some x =>
    obtain ⟨r, k, b⟩ := x
    rw [hb] at HE
    have HE2 : Hid (bestE v f s (n : Int) = (((r.first + k : Nat) : Int), 0)) := hide HE.out
    have hm := chs_mem (bestL_mem hb)
    have hr := HSML.out r hm.1
    have hf1 := hr.2.1
    have hk1 : k ≤ 20000 := by have := hm.2.1; have := hr.2.2; show k ≤ 20000; simp only at *; omega
    clear hb hm hr
    dsimp only [choV, choC]
    go_wp2_with fail
    refine bodyPost_ret (results_tmp2 rfl _ _ _) rfl ?_
    exact ⟨by rw [HE2.out, Int.natCast_add]; rfl, KX.out.trans ((Ext.refl w4).alloc _)⟩
end Go.Proofs.YtkhinagagncblaaDoor
