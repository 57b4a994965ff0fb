/- Lists of waiters: Save. -/
import Derived.Test.YteecgieigjfjiaaW12
import Derived.Test.YteecgieigjfjiaaJoin
namespace Go.Proofs.Yteecgieigjfjiaa
open Go.RowKit Go.Gr Go.Wl
set_option linter.unusedVariables false
set_option linter.unusedSimpArgs false
attribute [local go_sem] rdOp rdAt rdUpon Cls forall_fr
/-- the blocks of rows -/
def insFp (vs : List Value) (k : Nat) : Prop := ∃ ad n c, Value.slice (some ad) n c ∈ vs ∧ 0 < n ∧ ad.block = k
/-- rows that are read -/
def AsIn (vs : List Value) (rows : List (List Int)) : As := ⟨insFp vs, fun w => AreRows w vs rows,
  fun {w} h k hk => by
    obtain ⟨ad, n, c, hm, hn, rfl⟩ := hk
    obtain ⟨j, hj, e⟩ := List.getElem_of_mem hm
    obtain ⟨A, c', e', _, hr⟩ := h.2 j _ (rows[j]'(by rw [← h.1]; exact hj)) (by rw [List.getElem?_eq_getElem hj, e]) (List.getElem?_eq_getElem _)
    cases e'
    exact (As.rd (some ad) _).lt hr _ ⟨fun h0 => by rw [u32s_nil h0] at hn; simp at hn, ad, rfl, rfl⟩,
  fun {w w'} h k => ⟨h.1, fun j v r hv hr => (h.2 j v r hv hr).frame fun ad n c e hn => k _ ⟨ad, n, c, e ▸ List.mem_of_getElem? hv, hn, rfl⟩⟩⟩
theorem own_row {w : World} {e : TypeId} {v : Value} {r : List Int} (h : Own 0 w e v (u32s r)) : IsRow w v r := by
  obtain ⟨A, c, rfl, h1, h2, _⟩ := h.form
  rw [u32s_len] at h2 ⊢
  exact ⟨A, c, rfl, h2, h1⟩
theorem sep_in_nil {G : Nat → Prop} {w0 w : World} {L : List As} (H : Sep G w0 w L) : Sep G w0 w (AsIn [] [] :: L) := H.new (B := AsIn [] []) (Ext.refl w) (AreRows.nil w) (fun i hi => by
  obtain ⟨ad, n, c, hm, _⟩ := hi
  simp at hm)
/-- a row of the call's own is one more of the rows -/
theorem sep_in_push {G : Nat → Prop} {w0 w : World} {L : List As} {e : TypeId} {v : Value} {r : List Int} {vs : List Value} {rows : List (List Int)} (H : Sep G w0 w (As.own e v (u32s r) :: AsIn vs rows :: L)) : Sep G w0 w (AsIn (vs ++ [v]) (rows ++ [r]) :: L) := by
  refine H.merge (C := AsIn (vs ++ [v]) (rows ++ [r])) (fun ha hb => hb.push (own_row ha)) (fun i hi => ?_)
  obtain ⟨ad, n, c, hm, hn, rfl⟩ := hi
  rcases List.mem_append.1 hm with h | h
  · exact .inr ⟨ad, n, c, h, hn, rfl⟩
  · rw [List.mem_singleton] at h
    subst h
    exact .inl rfl
/-- rows and the row of them -/
theorem sep_rows {G : Nat → Prop} {w0 w : World} {L : List As} {B : Option Addr} {vs : List Value} {rows : List (List Int)} (H : Sep G w0 w (As.rd B vs :: AsIn vs rows :: L)) : Sep G w0 w (AsRows B vs rows :: L) := by
  refine H.merge (C := AsRows B vs rows) (fun ha hb => ⟨ha, hb⟩) (fun i hi => ?_)
  rcases hi with ⟨hne, ad, e, hi⟩ | h
  · exact .inl ⟨hne, ad, e, hi⟩
  · exact .inr h
theorem clip_any (A : Option Addr) (n c : Nat) (w : World) (hn : 0 < n) (hc : n ≤ c) (ad : Addr) (hA : A = some ad) : Calls Try.prog 29 #[.slice A n c] w fun e w' => e = .returned (.slice A n n) ∧ w = w' := by
  subst hA
  have h1 : (n : Int) ≤ (c : Int) := by omega
  have h2 : ¬ n = 0 := by omega
  go_enter Try.func29, Try.ntmps29
  go_wp2_with fail
  go_ret
  exact ⟨rfl, rfl⟩
theorem clip_nil (w : World) : Calls Try.prog 29 #[.slice none 0 0] w fun e w' => e = .returned (.slice none 0 0) ∧ w = w' := by
  go_enter Try.func29, Try.ntmps29
  go_wp2_with fail
  go_ret
  exact ⟨rfl, rfl⟩
theorem info39 : (Try.prog.info? 39).map (fun i => (i.zero, i.size, i.bytes)) = some (some (.slice none 0 0), 1, 24) := by kernel_rfl
theorem save_nil (w : World) : Calls Try.prog 15 #[.pointer none] w fun e w' => e = .returned (.slice none 0 0) ∧ w = w' := by
  go_enter Try.func15, Try.ntmps15
  go_wp2_with fail
  go_ret
  exact ⟨rfl, rfl⟩
theorem save_none {g : Nat} {w : World} (h : Blk w g 56 [.slice none 0 0]) : Calls Try.prog 15 #[pt g] w fun e w' => e = .returned (.slice none 0 0) ∧ w = w' := by
  have c0 : w.cell? ⟨g, 0, none⟩ = some (.slice none 0 0) := h.cell 0
  have hlt := h.lt
  clear h
  go_enter Try.func15, Try.ntmps15
  go_wp2_with fail
  go_loopw [3, 12] (fun v3 v wr => v3 = .slice none 0 0 ∧ v = .int .i64 0 ∧ w = wr) (fun _ _ _ => 0)
  case atStart => exact ⟨rfl, rfl, rfl⟩
  case round =>
    obtain ⟨rfl, rfl, rfl⟩ := hrel
    go_wp2_with fail
    (with_reducible refine (clip_nil _).mono ?_)
    rintro e w1 ⟨rfl, rfl⟩
    go_wp2_with fail
    go_ret
    exact ⟨rfl, rfl⟩
set_option maxRecDepth 100000 in
set_option maxHeartbeats 1000000 in
theorem save_any {g gr : Nat} {S : St} {w : World} (h : (AsLs g gr S).p w) : Calls Try.prog 15 #[pt g] w fun e w' => ∃ B vs, e = .returned (.slice B S.length S.length) ∧ Sep No w w' [AsRows B vs (S.map (·.2))] := by
  obtain ⟨i0, hi, hz0, hz1, hz2⟩ := info_parts info39
  obtain ⟨R, h, rfl⟩ := h
  have H := hide h
  have hp := h.ok.pos
  rw [stR_len] at hp
  have c0 : w.cell? ⟨g, 0, none⟩ = some (.slice (some ⟨gr, 0, none⟩) R.length R.length) := h.st.cell 0
  have hlt := h.st.lt
  have h8 := h.ok.len
  rw [stR_len] at h8
  clear h
  have K0 := hide (sep_in_nil ((Sep.refl No w).nilO 39))
  go_enter Try.func15, Try.ntmps15
  go_wp2_with fail
  clear c0 hlt
  go_loopw [3, 12] (fun v3 v wr => ∃ (k : Nat) (vs : List Value), v = .int .i64 k ∧ k ≤ R.length ∧ Hid (Sep No w wr [AsIn vs (((stR R).map (·.2)).take k), As.own 39 v3 vs])) (fun _ v _ => R.length - (intOf v).toNat)
  case atStart => exact ⟨0, [], rfl, by omega, by rw [List.take_zero]; exact K0⟩
  case round =>
    obtain ⟨k, vs, rfl, hk, HK⟩ := hrel
    clear K0
    have hvl : vs.length = k := by
      have := (HK.out.get (A := AsIn vs (((stR R).map (·.2)).take k)) (List.Mem.head _)).1
      rw [this, List.length_take, List.length_map, stR_len]
      omega
    by_cases hlt : k < R.length
    · have hlti : (k : Int) < (R.length : Int) := by omega
      have HW := hide (H.out.ext HK.out.toExt)
      have c0 : wr.cell? ⟨g, 0, none⟩ = some (.slice (some ⟨gr, 0, none⟩) R.length R.length) := HW.out.st.cell 0
      have hgl := HW.out.st.lt
      have HN : Hid (((stR R).map (·.2)).take k ++ [R[k].ws] = ((stR R).map (·.2)).take (k + 1)) := hide (by
        have hk2 : k < ((stR R).map (·.2)).length := by rw [List.length_map, stR_len]; exact hlt
        rw [List.take_succ_eq_append_getElem hk2]
        simp [stR])
      go_wp2_with fail
      (with_reducible refine (all_any (ls_ring HW.out hlt)).mono ?_)
      rintro e w2 ⟨v, rfl, hS⟩
      have K2 := (HK.out.joinW hS).rot.rot
      obtain ⟨Av, cv, rfl, _, _⟩ := own_row (hS.owns (e := 23) (List.Mem.head _))
      clear hS HK HW c0
      have tok : True := trivial
      go_wp2_with (have zz := tok; clear zz tok; refine wpList_pushS [] K2 rfl (.tmp 15) (.tmp 23) 37 rfl i0 (.slice none 0 0) 24 Try.underlying37 hi hz0 hz1 hz2 rfl rfl rfl rfl (by omega) (by decide) ?_; intro v4 w4 H4; dsimp only [List.nil_append] at H4; have K4 := hide H4; clear H4 K2)
      go_roundw
      case rel =>
        exact ⟨k + 1, vs ++ [_], by go_num, by omega, hide (by
          have K5 := sep_in_push K4.out.rot
          rw [HN.out] at K5
          exact K5)⟩
      case measure => simp [intOf]; omega
    · obtain rfl : k = R.length := by omega
      obtain ⟨A, c, hv, hr, hc, _⟩ := (HK.out.owns (e := 39) (v := u3) (xs := vs) (List.Mem.tail _ (List.Mem.head _))).form
      subst hv
      obtain ⟨ad, hA, _⟩ := hr.at_ (k := 0) (by omega)
      have KF : Hid (Sep No w wr [AsRows A vs ((stR R).map (·.2))]) := hide (by
        have H := HK.out
        rw [List.take_of_length_le (by rw [List.length_map, stR_len]; exact Nat.le_refl _)] at H
        exact sep_rows (H.swap.weak [] (B := As.rd A vs) (fun _ => hr) (fun i ⟨hne, ad, e, hi⟩ => by subst e; subst hi; rfl)))
      rw [hvl] at hc ⊢
      clear hr HK
      subst hA
      go_wp2_with fail
      (with_reducible refine (clip_any (some ad) R.length c _ (by omega) hc ad rfl).mono ?_)
      rintro e w2 ⟨rfl, rfl⟩
      go_wp2_with fail
      go_ret
      exact ⟨some ad, vs, by rw [stR_len]; rfl, KF.out⟩
end Go.Proofs.Yteecgieigjfjiaa
