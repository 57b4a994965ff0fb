/- Lists of waiters: the program's Load. -/
import Derived.Test.YteecgieigjfjiaaW21
namespace Go.Proofs.Yteecgieigjfjiaa
open Go.RowKit Go.Gr Go.Wl
set_option linter.unusedVariables false
set_option linter.unusedSimpArgs false
attribute [local go_sem] rdOp rdAt rdUpon Cls forall_fr
theorem cellX {w w' : World} (k : Ext w w') {ad : Addr} {v : Value} (h : w.cell? ad = some v) : w'.cell? ad = some v := (Below.cell k (cell_lt h)).trans h
theorem rowsL_at {B : Option Addr} {vs : List Value} {rows : List (List Int)} {w : World} (h : (AsRows B vs rows).p w) {s : Nat} (hs : s < rows.length) : ∃ bd C cr, B = some bd ∧ w.cell? (bd.add s) = some (.slice C rows[s].length cr) ∧ Rd w C (u32s rows[s]) ∧ rows[s].length ≤ cr := by
  obtain ⟨v, hv, C, cr, rfl, hcr, hr⟩ := h.2.get (j := s) hs
  obtain ⟨bd, e, hc⟩ := h.1 s _ hv
  exact ⟨bd, C, cr, e, hc, hr, hcr⟩
theorem asRows_ext {B : Option Addr} {vs : List Value} {rows : List (List Int)} {w w' : World} (h : (AsRows B vs rows).p w) (k : Ext w w') : (AsRows B vs rows).p w' := ⟨h.1.ext k, h.2.ext k⟩
theorem wt_put_self {S : St} {i : Nat} (hi : i < S.length) (r : List Int) : wt (put S i r) i = r := by
  unfold wt put
  simp [List.getD_eq_getElem?_getD, hi]
theorem wt_put_other {S : St} {i s : Nat} (h : s ≠ i) (r : List Int) : wt (put S i r) s = wt S s := by
  unfold wt put
  rw [List.getD_eq_getElem?_getD, List.getD_eq_getElem?_getD, List.getElem?_set_ne (by simpa using fun e => h e.symm)]
/-- the lists while they are filled: i rows are in, of the next one cur -/
structure LdS (l : List Int) (S : St) (i : Nat) (rows : List (List Int)) (cur : List Int) : Prop where
  lims : limsS S = l
  at_ : ∀ s, s < S.length → wt S s = if s < i then rows.getD s [] else if s = i then cur else []
theorem lims_newS {l : List Int} (h : limE l = 0) : limsS (newS l) = l := by
  unfold limsS newS
  rw [List.map_map]
  refine (List.map_congr_left fun x hx => ?_).trans (List.map_id l)
  have := (limE_zero h).2.2 x hx
  show ((x.toNat : Nat) : Int) = x
  omega
theorem LdS.start {l : List Int} (h : limE l = 0) (rows : List (List Int)) : LdS l (newS l) 0 rows [] := by
  refine ⟨lims_newS h, fun s hs => ?_⟩
  rw [if_neg (by omega), ite_self]
  unfold wt newS
  rw [List.getD_eq_getElem?_getD, Int.toNat_natCast, List.getElem?_map]
  cases l[s]? <;> rfl
theorem LdS.next {l : List Int} {S : St} {i : Nat} {rows : List (List Int)} {cur : List Int} (h : LdS l S i rows cur) (hc : rows.getD i [] = cur) : LdS l S (i + 1) rows [] := by
  refine ⟨h.lims, fun s hs => ?_⟩
  rw [h.at_ s hs]
  by_cases h1 : s < i
  · rw [if_pos h1, if_pos (by omega)]
  · rw [if_neg h1]
    by_cases h2 : s = i
    · rw [if_pos h2, if_pos (by omega), h2, hc]
    · rw [if_neg h2, if_neg (by omega), ite_self]
theorem LdS.push {l : List Int} {S : St} {i : Nat} {rows : List (List Int)} {cur cur' : List Int} (h : LdS l S i rows cur) (hi : i < S.length) : LdS l (put S i cur') i rows cur' := by
  refine ⟨(limsS_put hi _).trans h.lims, fun s hs => ?_⟩
  rw [put_len] at hs
  by_cases e : s = i
  · subst e
    rw [wt_put_self hi, if_neg (by omega), if_pos rfl]
  · rw [wt_put_other e, h.at_ s hs, if_neg e]
    by_cases h1 : s < i
    · rw [if_pos h1, if_pos h1]
    · rw [if_neg h1, if_neg h1, if_neg e]
theorem LdS.len {l : List Int} {S : St} {i : Nat} {rows : List (List Int)} {cur : List Int} (h : LdS l S i rows cur) : S.length = l.length := by rw [← limsS_len, h.lims]
theorem LdS.rows_eq {l : List Int} {S : St} {rows : List (List Int)} {cur : List Int} (h : LdS l S rows.length rows cur) (hl : rows.length = l.length) : rowsS S = rows := by
  have hS := h.len
  apply List.ext_getElem (by rw [rowsS_len, hS, hl])
  intro s h1 h2
  have hs : s < S.length := by rw [rowsS_len] at h1; exact h1
  rw [rowsS_get hs, h.at_ s hs, if_pos h2]
  simp [List.getD_eq_getElem?_getD, h2]
theorem st_eq {S : St} {l : List Int} {rows : List (List Int)} (h1 : limsS S = l) (h2 : rowsS S = rows) : S = loadS l rows := by
  subst h1 h2
  unfold loadS limsS rowsS
  induction S with
  | nil => rfl
  | cons p t ih =>
    obtain ⟨n, r⟩ := p
    simp only [List.map_cons, List.zip_cons_cons]
    rw [← ih]
    simp
theorem join_push {S : St} {i : Nat} {o : Int} (hi : i < S.length) (h1 : (wt S i).length ≠ lm S i) (h2 : o ∉ wt S i) : (joinS S i o).1 = put S i (wt S i ++ [o]) ∧ (joinS S i o).2.2 = 0 := by
  unfold joinS
  rw [if_neg (fun h => h ⟨by omega, by omega⟩), if_neg h1, if_neg h2]
  exact ⟨rfl, rfl⟩
theorem join_again {S : St} {i : Nat} {o : Int} (hi : i < S.length) (h1 : (wt S i).length ≠ lm S i) (h2 : o ∈ wt S i) : (joinS S i o).1 = S ∧ (joinS S i o).2.2 = 8 := by
  unfold joinS
  rw [if_neg (fun h => h ⟨by omega, by omega⟩), if_neg h1, if_pos h2]
  exact ⟨rfl, rfl⟩
theorem loadG_at {l : List Int} {rows : List (List Int)} {i : Nat} (hi : i < l.length) (hj : i < rows.length) : (l.zip rows).drop i = (l[i], rows[i]) :: (l.zip rows).drop (i + 1) := by
  have h : i < (l.zip rows).length := by rw [List.length_zip]; omega
  rw [List.drop_eq_getElem_cons h, List.getElem_zip]
theorem loadE_bad {l : List Int} {rows : List (List Int)} (h : limE l ≠ 0) : loadE l rows = (-1, limE l) := by unfold loadE; rw [if_pos h]
theorem loadE_len {l : List Int} {rows : List (List Int)} (h : limE l = 0) (h2 : rows.length ≠ l.length) : loadE l rows = (-1, 3) := by unfold loadE; rw [if_neg (fun e => e h), if_pos h2]
theorem loadE_go {l : List Int} {rows : List (List Int)} (h : limE l = 0) (h2 : rows.length = l.length) : loadE l rows = loadG 0 ((l.zip rows).drop 0) := by unfold loadE; rw [if_neg (fun e => e h), if_neg (fun e => e h2), List.drop_zero]
theorem loadG_full {l : List Int} {rows : List (List Int)} {i : Nat} (hi : i < l.length) (hj : i < rows.length) (h : l[i] < (rows[i].length : Int)) : loadG i ((l.zip rows).drop i) = ((i : Int), 5) := by
  rw [loadG_at hi hj]; unfold loadG; rw [if_pos h]
theorem loadG_twice {l : List Int} {rows : List (List Int)} {i : Nat} (hi : i < l.length) (hj : i < rows.length) (h : ¬ l[i] < (rows[i].length : Int)) (h2 : ¬ rows[i].Nodup) : loadG i ((l.zip rows).drop i) = ((i : Int), 8) := by
  rw [loadG_at hi hj]; unfold loadG; rw [if_neg h, if_pos h2]
theorem loadG_next {l : List Int} {rows : List (List Int)} {i : Nat} (hi : i < l.length) (hj : i < rows.length) (h : ¬ l[i] < (rows[i].length : Int)) (h2 : rows[i].Nodup) : loadG i ((l.zip rows).drop i) = loadG (i + 1) ((l.zip rows).drop (i + 1)) := by
  rw [loadG_at hi hj]; conv => lhs; unfold loadG
  rw [if_neg h, if_neg (fun e => e h2)]
theorem loadG_end {l : List Int} {rows : List (List Int)} {i : Nat} (h : l.length ≤ i) : loadG i ((l.zip rows).drop i) = (0, 0) := by
  rw [List.drop_eq_nil_of_le (by rw [List.length_zip]; omega)]; rfl
theorem nodup_push {r : List Int} {j : Nat} (hj : j < r.length) (h : (r.take j).Nodup) (h2 : r[j] ∉ r.take j) : (r.take (j + 1)).Nodup := by
  rw [List.take_succ_eq_append_getElem hj]
  refine List.nodup_append.2 ⟨h, List.nodup_cons.2 ⟨List.not_mem_nil, List.nodup_nil⟩, fun a ha b hb => ?_⟩
  rw [List.mem_singleton] at hb; subst hb
  exact fun e => h2 (e ▸ ha)
theorem nodup_bad {r : List Int} {j : Nat} (hj : j < r.length) (h2 : r[j] ∈ r.take j) : ¬ r.Nodup := by
  intro h
  have h3 : (r.take (j + 1)).Nodup := h.sublist (List.take_sublist _ _)
  rw [List.take_succ_eq_append_getElem hj] at h3
  exact (List.nodup_append.1 h3).2.2 _ h2 _ (List.mem_singleton.2 rfl) rfl
def LdQ (l : List Int) (rows : List (List Int)) (w : World) (e : Ending) (w' : World) : Prop :=
  ((loadE l rows).2 = 0 → ∃ g gr, e = .returned (.tuple #[pt g, .int .i64 0, .int .i64 0]) ∧ Sep No w w' [AsLs g gr (loadS l rows)]) ∧ ((loadE l rows).2 ≠ 0 → e = .returned (.tuple #[.pointer none, .int .i64 (loadE l rows).1, .int .i64 (loadE l rows).2]) ∧ Ext w w')
theorem ldQ_bad {l : List Int} {rows : List (List Int)} {w w' : World} {a b : Int} (h : loadE l rows = (a, b)) (hb : b ≠ 0) (hx : Ext w w') : LdQ l rows w (.returned (.tuple #[.pointer none, .int .i64 a, .int .i64 b])) w' :=
  ⟨fun h0 => absurd (by rw [h] at h0; exact h0) hb, fun _ => ⟨by rw [h], hx⟩⟩
set_option maxRecDepth 100000 in
set_option maxHeartbeats 4000000 in
theorem load_any (l : List Int) (A : Option Addr) (c : Nat) (rows : List (List Int)) (B : Option Addr) (vs : List Value) (d : Nat) (w : World) (hr : Rd w A (i64s l)) (hB : (AsRows B vs rows).p w) (hlm : l.length ≤ 100000) (hrm : rows.length ≤ 100000) (hrl : ∀ r ∈ rows, r.length ≤ 1000000 ∧ ∀ x ∈ r, 0 ≤ x ∧ x < 4294967296) :
    Calls Try.prog 22 #[.slice A l.length c, .slice B rows.length d] w (LdQ l rows w) := by
  have HR := hide hr
  have HB := hide hB
  have HRL := hide hrl
  have HN := hide (new_any l A c w hr hlm)
  clear hr hB hrl
  by_cases h0 : limE l = 0
  · have HLIM := hide h0
    by_cases hl : rows.length = l.length
    · have HGO := hide (loadE_go h0 hl)
      have HLE := hide hl
      have e1 : (((rows.length : Nat) : Int) != ((l.length : Nat) : Int)) = false := by rw [hl]; exact bne_self_eq_false _
      clear h0 hl
      go_enter Try.func22, Try.ntmps22
      go_wp2_with fail
      (with_reducible refine HN.out.mono ?_)
      rintro e w1 ⟨h1, _⟩
      obtain ⟨g, gr, rfl, hS1⟩ := h1 HLIM.out
      have KK := hide hS1
      clear h1 hS1 HN
      go_wp2_with fail
      go_loopw [4, 32] (fun v4 v32 wr => ∃ (i : Nat) (S : St), v4 = pt g ∧ v32 = .int .i64 i ∧ i ≤ rows.length ∧ Hid (LdS l S i rows []) ∧ Hid (loadE l rows = loadG i ((l.zip rows).drop i)) ∧ Hid (Sep No w wr [AsLs g gr S])) (fun _ v32 _ => rows.length - (intOf v32).toNat)
      case atStart => exact ⟨0, newS l, rfl, rfl, by omega, hide (LdS.start HLIM.out rows), HGO, KK⟩
      case round =>
        obtain ⟨i, S, rfl, rfl, hi, HLD, HG, HK⟩ := hrel
        clear KK
        by_cases hlt : i < rows.length
        · have hlti : (i : Int) < (rows.length : Int) := by omega
          have hll : i < l.length := by rw [← HLE.out]; exact hlt
          have hlli : (i : Int) < (l.length : Int) := by omega
          obtain ⟨ad, hA, cl0⟩ := i64s_at HR.out hll
          obtain ⟨bd, C, cr, hB, cb0, hrow, hcr⟩ := rowsL_at HB.out hlt
          subst hA hB
          have cl := cellX HK.out.toExt cl0
          have cb := cellX HK.out.toExt cb0
          clear cl0 cb0
          obtain ⟨hr1, hr2⟩ := HRL.out _ (List.getElem_mem hlt)
          have HGF := hide (loadG_full hll hlt)
          have HGT := hide (loadG_twice hll hlt)
          have HGN := hide (loadG_next hll hlt)
          have HGD : Hid (rows.getD i [] = rows[i]) := hide (by simp [List.getD_eq_getElem?_getD, hlt])
          obtain ⟨n, hn⟩ : ∃ n, l[i] = n := ⟨_, rfl⟩
          obtain ⟨r, hrr⟩ : ∃ r, rows[i] = r := ⟨_, rfl⟩
          rw [hrr] at cb hrow hcr hr1 hr2
          simp only [hrr, hn] at HGF HGT HGN HGD
          rw [hn] at cl
          have HLN : Hid (∀ s, s < S.length → (((limsS S)[s]?).getD 0) = ((lm S s : Nat) : Int)) := hide (fun s hs => by rw [List.getElem?_eq_getElem (by rw [limsS_len]; exact hs), limsS_get hs]; rfl)
          have HNI : Hid (n = (l[i]?).getD 0) := hide (by rw [List.getElem?_eq_getElem hll, hn]; rfl)
          clear hn hrr
          have HRW := hide hrow
          have HR2 := hide hr2
          clear hrow hr2
          by_cases hful : n < (r.length : Int)
          · have HE := hide (HG.out.trans (HGF.out hful))
            have HX := hide HK.out.toExt
            go_wp2_with fail
            go_ret3
            exact ldQ_bad HE.out (by decide) HX.out
          · have HF := hide hful
            go_wp2_with fail
            go_loopw [4, 47] (fun v4 v47 wy => ∃ (j : Nat) (S' : St), v4 = pt g ∧ v47 = .int .i64 j ∧ j ≤ r.length ∧ Hid (LdS l S' i rows (r.take j)) ∧ Hid ((r.take j).Nodup) ∧ Hid (Sep No w wy [AsLs g gr S'])) (fun _ v47 _ => r.length - (intOf v47).toNat)
            case atStart => exact ⟨0, S, rfl, rfl, by omega, by rw [List.take_zero]; exact HLD, hide (by rw [List.take_zero]; exact List.nodup_nil), HK⟩
            case round =>
              obtain ⟨j, S', rfl, rfl, hj, HLD', HND, HK'⟩ := hrel
              clear HK cl cb
              have hiS : i < S'.length := by rw [HLD'.out.len]; exact hll
              have hwt : wt S' i = r.take j := by rw [HLD'.out.at_ i hiS, if_neg (by omega), if_pos rfl]
              by_cases hjl : j < r.length
              · have hjli : (j : Int) < (r.length : Int) := by omega
                obtain ⟨cd, hC, co0⟩ := u32s_at HRW.out hjl
                subst hC
                have co := cellX HK'.out.toExt co0
                have hor := HR2.out _ (List.getElem_mem hjl)
                have HND2 := hide (nodup_push hjl HND.out)
                have HNB := hide (nodup_bad hjl)
                have HTK : Hid (r.take j ++ [r[j]] = r.take (j + 1)) := hide (List.take_succ_eq_append_getElem hjl).symm
                obtain ⟨o, hoo⟩ : ∃ o, r[j] = o := ⟨_, rfl⟩
                simp only [hoo] at HND2 HNB HTK
                rw [hoo] at co hor
                have hlm' : ((lm S' i : Nat) : Int) = n := by
                  have e1 := limsS_get hiS
                  have e2 : limsS S' = l := HLD'.out.lims
                  rw [HNI.out, ← e2, List.getElem?_eq_getElem (by rw [limsS_len]; exact hiS), e1]; rfl
                have hne : (wt S' i).length ≠ lm S' i := by
                  rw [hwt, List.length_take]
                  have := HF.out
                  omega
                have HJ := hide (join_any (i := (i : Int)) (o := o) (HK'.out.get (A := AsLs g gr S') (List.Mem.head _)) hor)
                obtain ⟨p, HP⟩ : ∃ p, Hid ((joinS S' i o).2.1 = p) := ⟨_, hide rfl⟩
                clear co0 hoo hlm' hor
                by_cases hin : o ∈ r.take j
                · obtain ⟨ea, eb⟩ := join_again hiS hne (by rw [hwt]; exact hin)
                  rw [HP.out, ea, eb] at HJ
                  have HE := hide (HG.out.trans (HGT.out HF.out (HNB.out hin)))
                  clear ea eb hin hne hwt
                  go_wp2_with fail
                  (with_reducible refine HJ.out.mono ?_)
                  rintro e w2 ⟨rfl, hp, hu⟩
                  have HX := hide (sep_ls [] HK'.out hp hu).toExt
                  clear hp hu HJ HK'
                  go_wp2_with fail
                  go_ret3
                  exact ldQ_bad HE.out (by decide) HX.out
                · obtain ⟨ea, eb⟩ := join_push hiS hne (by rw [hwt]; exact hin)
                  rw [HP.out, ea, eb, hwt, HTK.out] at HJ
                  have HL2 := hide (HLD'.out.push (cur' := r.take (j + 1)) hiS)
                  have HN2 := hide (HND2.out hin)
                  clear ea eb hin hne hwt
                  go_wp2_with fail
                  (with_reducible refine HJ.out.mono ?_)
                  rintro e w2 ⟨rfl, hp, hu⟩
                  have K2 := hide (sep_ls [] HK'.out hp hu)
                  clear hp hu HJ HK'
                  go_wp2_with fail
                  go_roundw
                  case rel => first | exact ⟨j + 1, put S' i (r.take (j + 1)), rfl, by go_num, by omega, HL2, HN2, K2⟩ | exact ⟨j + 1, put S' i (r.take (j + 1)), by go_num, by omega, HL2, HN2, K2⟩
                  case measure => simp [intOf]; omega
              · obtain rfl : j = r.length := by omega
                have hjli : ¬ ((r.length : Nat) : Int) < (r.length : Int) := by omega
                have HN3 : Hid r.Nodup := hide (by have := HND.out; rwa [List.take_length] at this)
                have HG3 := hide (HG.out.trans (HGN.out HF.out HN3.out))
                have HL3 := hide (HLD'.out.next (by rw [List.take_length]; exact HGD.out))
                clear hwt
                go_wp2_with fail
                go_roundw
                case rel => first | exact ⟨i + 1, S', rfl, by go_num, by omega, HL3, HG3, HK'⟩ | exact ⟨i + 1, S', by go_num, by omega, HL3, HG3, HK'⟩
                case measure => simp [intOf]; omega
        · obtain rfl : i = rows.length := by omega
          have hlti : ¬ ((rows.length : Nat) : Int) < (rows.length : Int) := by omega
          have HE := hide (HG.out.trans (loadG_end (by rw [HLE.out]; exact Nat.le_refl _)))
          have HS := hide (st_eq HLD.out.lims (HLD.out.rows_eq HLE.out))
          go_wp2_with fail
          go_ret3
          exact ⟨fun _ => ⟨g, gr, rfl, by rw [← HS.out]; exact HK.out⟩, fun h => absurd (by rw [HE.out]) h⟩
    · have HE := hide (loadE_len h0 hl)
      have hli : (((rows.length : Nat) : Int) != ((l.length : Nat) : Int)) = true := bne_iff_ne.2 (by omega)
      clear h0 hl
      go_enter Try.func22, Try.ntmps22
      go_wp2_with fail
      (with_reducible refine HN.out.mono ?_)
      rintro e w1 ⟨h1, _⟩
      obtain ⟨g, gr, rfl, hS1⟩ := h1 HLIM.out
      have HX := hide hS1.toExt
      clear h1 hS1 HN
      go_wp2_with fail
      go_ret3
      exact ldQ_bad HE.out (by decide) HX.out
  · have HE := hide (loadE_bad (rows := rows) h0)
    obtain ⟨el, HEL⟩ : ∃ y, Hid (limE l = y) := ⟨_, hide rfl⟩
    have hel : el ≠ 0 := by rw [← HEL.out]; exact h0
    have HLIM := hide h0
    have e1 : (el != 0) = true := bne_iff_ne.2 hel
    have e2 : (el == 0) = false := beq_eq_false_iff_ne.2 hel
    rw [HEL.out] at HE
    clear h0
    go_enter Try.func22, Try.ntmps22
    go_wp2_with fail
    (with_reducible refine HN.out.mono ?_)
    rintro e w1 ⟨_, h1⟩
    obtain ⟨rfl, hx1⟩ := h1 HLIM.out
    rw [HEL.out]
    have HX := hide hx1
    clear h1 hx1 HN
    go_wp2_with fail
    go_ret3
    exact ldQ_bad HE.out hel HX.out
end Go.Proofs.Yteecgieigjfjiaa
