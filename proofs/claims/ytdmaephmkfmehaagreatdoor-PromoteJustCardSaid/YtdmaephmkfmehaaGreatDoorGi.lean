/- Texts put together: W20 WA W21 W22 W23 W24. -/
import Derived.Test.YtdmaephmkfmehaaGreatDoorGg
import Derived.Test.YtdmaephmkfmehaaGreatDoorGa
import Derived.Test.YtdmaephmkfmehaaGreatDoorGh
namespace Go.Proofs.YtdmaephmkfmehaaGreatDoor
open Go.RowKit Go.Gr Go.Wl
set_option linter.unusedVariables false
set_option linter.unusedSimpArgs false
attribute [local go_sem] rdOp rdAt rdUpon Cls forall_fr
theorem sep_ls {G : Nat → Prop} {w0 w w' : World} (L1 : List As) {L2 : List As} {g gr : Nat} {S S' : St} (K : Sep G w0 w (L1 ++ AsLs g gr S :: L2)) (hp : (AsLs g gr S').p w') (hu : Upd gr w w') : Sep G w0 w' (L1 ++ AsLs g gr S' :: L2) :=
  K.upd (B := AsLs g gr S') (Fr.of_upd hu) (fun i hi => .inr hi) hp (fun _ h => .inl h)
theorem row_lit {w : World} {g : Nat} {e : TypeId} (r : List Int) (h : Blk w g e (u32s r)) : IsRow w (.slice (some ⟨g, 0, none⟩) r.length r.length) r := ⟨_, _, rfl, Nat.le_refl _, h.rd⟩
end Go.Proofs.YtdmaephmkfmehaaGreatDoor
namespace Go.Proofs.YtdmaephmkfmehaaGreatDoor
open Go.RowKit Go.Gr Go.Wl
set_option linter.unusedVariables false
set_option linter.unusedSimpArgs false
/-- a call: what, the section, the owner -/
structure Cl where
  what : Int
  sec : Int
  own : Int
structure Cl.ok (x : Cl) : Prop where
  w : 0 ≤ x.what ∧ x.what < 256
  s : -9223372036854775808 ≤ x.sec ∧ x.sec ≤ 9223372036854775807
  o : 0 ≤ x.own ∧ x.own < 4294967296
def xc (x : Cl) : List Value := [.int .u8 x.what, .int .i64 x.sec, .int .u32 x.own]
theorem callL {w : World} {cs : List Value} (h0 : Lvs Tryz.prog w [.int .u8, .int .i64, .int .u32] cs) : ∃ x : Cl, cs = xc x ∧ x.ok := by
  obtain ⟨_, _, rfl, ⟨a, rfl, ha⟩, h1⟩ := h0.cons
  obtain ⟨_, _, rfl, ⟨b, rfl, hb⟩, h2⟩ := h1.cons
  obtain ⟨_, _, rfl, ⟨c, rfl, hc⟩, h3⟩ := h2.cons
  obtain rfl := h3.nil_
  exact ⟨⟨a, b, c⟩, rfl, ⟨wf_u8 ha, wf_i64 hb, wf_u32 hc⟩⟩
theorem exists_list {α β : Type} {p : α → β → Prop} : ∀ (rows : List β), (∀ r ∈ rows, ∃ x, p x r) → ∃ l : List α, l.length = rows.length ∧ ∀ i (h1 : i < l.length) (h2 : i < rows.length), p l[i] rows[i]
  | [], _ => ⟨[], rfl, fun i h1 => by simp at h1⟩
  | r :: rows, h => by
    obtain ⟨x, hx⟩ := h r (by simp)
    obtain ⟨l, hl, hp⟩ := exists_list rows (fun r hr => h r (by simp [hr]))
    refine ⟨x :: l, by simp [hl], fun i h1 h2 => ?_⟩
    cases i with
    | zero => exact hx
    | succ i => exact hp i (by simpa using h1) (by simpa using h2)
theorem call_at {w : World} {A : Option Addr} {l : List Cl} (h : RdM w A 3 (l.map xc)) {k : Nat} (hk : k < l.length) : ∃ b off, A = some ⟨b, off, none⟩ ∧ w.cell? ⟨b, off + k * 3, none⟩ = some (.int .u8 l[k].what) ∧ w.cell? ⟨b, off + k * 3 + 1, none⟩ = some (.int .i64 l[k].sec) ∧ w.cell? ⟨b, off + k * 3 + 2, none⟩ = some (.int .u32 l[k].own) ∧ b < w.heap.size := by
  obtain ⟨b, off, e, hc⟩ := h.at_ (fun r hr => by
    obtain ⟨x, _, rfl⟩ := List.mem_map.1 hr
    exact Nat.succ_pos _) (i := k) (r := xc l[k]) (by simp [hk])
  have h0 := hc 0 _ rfl
  exact ⟨b, off, e, h0, hc 1 _ rfl, hc 2 _ rfl, cell_lt h0⟩
theorem ints_arg {w : World} {v : Value} (h : LfOk Tryz.prog w (.slice 3) v) : ∃ A l c, v = .slice A l.length c ∧ Rd w A (i64s l) ∧ (∀ x ∈ l, -9223372036854775808 ≤ x ∧ x ≤ 9223372036854775807) ∧ l.length ≤ c ∧ c ≤ maxLen := by
  obtain ⟨A, l, c, rfl, h1, h2, h3, h4⟩ := slice_ints Tryz.underlying3 (by kernel_rfl) h
  exact ⟨A, l, c, rfl, h1, fun x hx => wf_i64 (h2 x hx), h3, h4⟩
theorem step_join (n : Nat) (ws : List Int) (o : Int) : ∃ ws', (joinS (S1 n ws) 0 o).1 = S1 n ws' ∧ Step ws ws' := by
  by_cases h : ws.length = n
  · exact ⟨ws, by rw [join1_full o h], .same _⟩
  · by_cases ho : o ∈ ws
    · exact ⟨ws, by rw [join1_twice h ho], .same _⟩
    · exact ⟨ws ++ [o], by rw [join1_ok h ho], .app _ _ ho⟩
theorem step_leave (n : Nat) (ws : List Int) (o : Int) : ∃ ws', (leaveS (S1 n ws) 0 o).1 = S1 n ws' ∧ Step ws ws' := by
  by_cases ho : o ∈ ws
  · exact ⟨_, by rw [leave1_ok ho], .del _ _⟩
  · exact ⟨ws, by rw [leave1_no ho], .same _⟩
theorem step_take (n : Nat) (ws : List Int) : ∃ ws', (takeS (S1 n ws) 0).1 = S1 n ws' ∧ Step ws ws' := by
  cases ws with
  | nil => exact ⟨[], by rw [take1_no], .same _⟩
  | cons x t => exact ⟨t, by rw [take1_ok], by have := Step.del (x :: t) 0; rwa [List.eraseIdx_zero] at this⟩
theorem mod8 {x : Int} (h : 0 ≤ x ∧ x < 256) : ∃ m : Int, x.tmod 8 = m ∧ (m = 0 ∨ m = 1 ∨ m = 2 ∨ m = 3 ∨ m = 4 ∨ m = 5 ∨ m = 6 ∨ m = 7) := ⟨_, rfl, by rw [Int.tmod_eq_emod_of_nonneg h.1]; omega⟩
end Go.Proofs.YtdmaephmkfmehaaGreatDoor
namespace Go.Proofs.YtdmaephmkfmehaaGreatDoor
open Go.RowKit Go.Gr Go.Wl
set_option linter.unusedVariables false
set_option linter.unusedSimpArgs false
attribute [local go_sem] rdOp rdAt rdUpon Cls forall_fr
theorem cells3 {w : World} {g : Nat} {e : TypeId} {x y z : Value} (h : Blk w g e [x, y, z]) : w.cell? ⟨g, 0, none⟩ = some x ∧ w.cell? ⟨g, 1, none⟩ = some y ∧ w.cell? ⟨g, 2, none⟩ = some z ∧ g < w.heap.size := ⟨h.cell 0, h.cell 1, h.cell 2, h.lt⟩
theorem sep_rf_to {G : Nat → Prop} {w0 w w' : World} {c : Nat} (L1 : List As) {L2 : List As} {A B : Option Addr} {vs : List Value} {S S' : St} {v : Value} (K : Sep G w0 w (L1 ++ AsRf A B vs S :: L2)) (hR : RfTo c w A B vs S w' v S') :
    ∃ B' vs' d', v = rv A B' S'.length c d' ∧ Sep G w0 w' (L1 ++ AsRf A B' vs' S' :: L2) := by
  obtain ⟨B', vs', d', rfl, hp, hx, hf⟩ := hR
  exact ⟨B', vs', d', rfl, K.upd (B := AsRf A B' vs' S') (Fr.of_ext hx) (fun _ h => h.elim) hp hf⟩
/-- what a call makes of lists -/
def oneS (S : St) (x : Cl) : St :=
  if x.what.tmod 8 = 0 ∨ x.what.tmod 8 = 1 then (joinS S x.sec x.own).1 else if x.what.tmod 8 = 2 then (leaveS S x.sec x.own).1 else if x.what.tmod 8 = 5 ∨ x.what.tmod 8 = 6 then (takeS S x.sec).1 else S
/-- the lists and the reference's -/
def GG (g gr : Nat) (A B : Option Addr) (vs : List Value) (S : St) (k : Nat) : Prop := (AsLs g gr S).fp k ∨ (AsRf A B vs S).fp k
theorem ls_ok {g gr : Nat} {S : St} {w : World} (h : (AsLs g gr S).p w) : Ok S := by
  obtain ⟨R, hL, rfl⟩ := h
  exact hL.ok
def OneQ (g gr : Nat) (A B : Option Addr) (vs : List Value) (S S' : St) (c : Nat) (w : World) (e : Ending) (w' : World) : Prop :=
  ∃ B' vs' d', e = .returned (.tuple #[rv A B' S'.length c d', .bool true]) ∧ Sep (GG g gr A B vs S) w w' [AsLs g gr S', AsRf A B' vs' S']
end Go.Proofs.YtdmaephmkfmehaaGreatDoor
namespace Go.Proofs.YtdmaephmkfmehaaGreatDoor
open Go.RowKit Go.Gr Go.Wl
set_option linter.unusedVariables false
set_option linter.unusedSimpArgs false
attribute [local go_sem] rdOp rdAt rdUpon Cls forall_fr
theorem rowsL_at {B : Option Addr} {vs : List Value} {rows : List (List Int)} {w : World} (h : (AsRows B vs rows).p w) {s : Nat} (hs : s < rows.length) : ∃ bd C cr, B = some bd ∧ w.cell? (bd.add s) = some (.slice C rows[s].length cr) ∧ Rd w C (u32s rows[s]) ∧ rows[s].length ≤ cr := by
  obtain ⟨v, hv, C, cr, rfl, hcr, hr⟩ := h.2.get (j := s) hs
  obtain ⟨bd, e, hc⟩ := h.1 s _ hv
  exact ⟨bd, C, cr, e, hc, hr, hcr⟩
theorem asRows_ext {B : Option Addr} {vs : List Value} {rows : List (List Int)} {w w' : World} (h : (AsRows B vs rows).p w) (k : Ext w w') : (AsRows B vs rows).p w' := ⟨h.1.ext k, h.2.ext k⟩
theorem wt_put_self {S : St} {i : Nat} (hi : i < S.length) (r : List Int) : wt (put S i r) i = r := by
  unfold wt put
  simp [List.getD_eq_getElem?_getD, hi]
theorem wt_put_other {S : St} {i s : Nat} (h : s ≠ i) (r : List Int) : wt (put S i r) s = wt S s := by
  unfold wt put
  rw [List.getD_eq_getElem?_getD, List.getD_eq_getElem?_getD, List.getElem?_set_ne (by simpa using fun e => h e.symm)]
/-- the lists while they are filled: i rows are in, of the next one cur -/
structure LdS (l : List Int) (S : St) (i : Nat) (rows : List (List Int)) (cur : List Int) : Prop where
  lims : limsS S = l
  at_ : ∀ s, s < S.length → wt S s = if s < i then rows.getD s [] else if s = i then cur else []
theorem lims_newS {l : List Int} (h : limE l = 0) : limsS (newS l) = l := by
  unfold limsS newS
  rw [List.map_map]
  refine (List.map_congr_left fun x hx => ?_).trans (List.map_id l)
  have := (limE_zero h).2.2 x hx
  show ((x.toNat : Nat) : Int) = x
  omega
theorem LdS.start {l : List Int} (h : limE l = 0) (rows : List (List Int)) : LdS l (newS l) 0 rows [] := by
  refine ⟨lims_newS h, fun s hs => ?_⟩
  rw [if_neg (by omega), ite_self]
  unfold wt newS
  rw [List.getD_eq_getElem?_getD, Int.toNat_natCast, List.getElem?_map]
  cases l[s]? <;> rfl
theorem LdS.next {l : List Int} {S : St} {i : Nat} {rows : List (List Int)} {cur : List Int} (h : LdS l S i rows cur) (hc : rows.getD i [] = cur) : LdS l S (i + 1) rows [] := by
  refine ⟨h.lims, fun s hs => ?_⟩
  rw [h.at_ s hs]
  by_cases h1 : s < i
  · rw [if_pos h1, if_pos (by omega)]
  · rw [if_neg h1]
    by_cases h2 : s = i
    · rw [if_pos h2, if_pos (by omega), h2, hc]
    · rw [if_neg h2, if_neg (by omega), ite_self]
theorem LdS.push {l : List Int} {S : St} {i : Nat} {rows : List (List Int)} {cur cur' : List Int} (h : LdS l S i rows cur) (hi : i < S.length) : LdS l (put S i cur') i rows cur' := by
  refine ⟨(limsS_put hi _).trans h.lims, fun s hs => ?_⟩
  rw [put_len] at hs
  by_cases e : s = i
  · subst e
    rw [wt_put_self hi, if_neg (by omega), if_pos rfl]
  · rw [wt_put_other e, h.at_ s hs, if_neg e]
    by_cases h1 : s < i
    · rw [if_pos h1, if_pos h1]
    · rw [if_neg h1, if_neg h1, if_neg e]
theorem LdS.len {l : List Int} {S : St} {i : Nat} {rows : List (List Int)} {cur : List Int} (h : LdS l S i rows cur) : S.length = l.length := by rw [← limsS_len, h.lims]
theorem LdS.rows_eq {l : List Int} {S : St} {rows : List (List Int)} {cur : List Int} (h : LdS l S rows.length rows cur) (hl : rows.length = l.length) : rowsS S = rows := by
  have hS := h.len
  apply List.ext_getElem (by rw [rowsS_len, hS, hl])
  intro s h1 h2
  have hs : s < S.length := by rw [rowsS_len] at h1; exact h1
  rw [rowsS_get hs, h.at_ s hs, if_pos h2]
  simp [List.getD_eq_getElem?_getD, h2]
theorem st_eq {S : St} {l : List Int} {rows : List (List Int)} (h1 : limsS S = l) (h2 : rowsS S = rows) : S = loadS l rows := by
  subst h1 h2
  unfold loadS limsS rowsS
  induction S with
  | nil => rfl
  | cons p t ih =>
    obtain ⟨n, r⟩ := p
    simp only [List.map_cons, List.zip_cons_cons]
    rw [← ih]
    simp
theorem join_push {S : St} {i : Nat} {o : Int} (hi : i < S.length) (h1 : (wt S i).length ≠ lm S i) (h2 : o ∉ wt S i) : (joinS S i o).1 = put S i (wt S i ++ [o]) ∧ (joinS S i o).2.2 = 0 := by
  unfold joinS
  rw [if_neg (fun h => h ⟨by omega, by omega⟩), if_neg h1, if_neg h2]
  exact ⟨rfl, rfl⟩
theorem join_again {S : St} {i : Nat} {o : Int} (hi : i < S.length) (h1 : (wt S i).length ≠ lm S i) (h2 : o ∈ wt S i) : (joinS S i o).1 = S ∧ (joinS S i o).2.2 = 8 := by
  unfold joinS
  rw [if_neg (fun h => h ⟨by omega, by omega⟩), if_neg h1, if_pos h2]
  exact ⟨rfl, rfl⟩
theorem loadG_at {l : List Int} {rows : List (List Int)} {i : Nat} (hi : i < l.length) (hj : i < rows.length) : (l.zip rows).drop i = (l[i], rows[i]) :: (l.zip rows).drop (i + 1) := by
  have h : i < (l.zip rows).length := by rw [List.length_zip]; omega
  rw [List.drop_eq_getElem_cons h, List.getElem_zip]
theorem loadE_bad {l : List Int} {rows : List (List Int)} (h : limE l ≠ 0) : loadE l rows = (-1, limE l) := by unfold loadE; rw [if_pos h]
theorem loadE_len {l : List Int} {rows : List (List Int)} (h : limE l = 0) (h2 : rows.length ≠ l.length) : loadE l rows = (-1, 3) := by unfold loadE; rw [if_neg (fun e => e h), if_pos h2]
theorem loadE_go {l : List Int} {rows : List (List Int)} (h : limE l = 0) (h2 : rows.length = l.length) : loadE l rows = loadG 0 ((l.zip rows).drop 0) := by unfold loadE; rw [if_neg (fun e => e h), if_neg (fun e => e h2), List.drop_zero]
theorem loadG_full {l : List Int} {rows : List (List Int)} {i : Nat} (hi : i < l.length) (hj : i < rows.length) (h : l[i] < (rows[i].length : Int)) : loadG i ((l.zip rows).drop i) = ((i : Int), 5) := by
  rw [loadG_at hi hj]; unfold loadG; rw [if_pos h]
theorem loadG_twice {l : List Int} {rows : List (List Int)} {i : Nat} (hi : i < l.length) (hj : i < rows.length) (h : ¬ l[i] < (rows[i].length : Int)) (h2 : ¬ rows[i].Nodup) : loadG i ((l.zip rows).drop i) = ((i : Int), 8) := by
  rw [loadG_at hi hj]; unfold loadG; rw [if_neg h, if_pos h2]
theorem loadG_next {l : List Int} {rows : List (List Int)} {i : Nat} (hi : i < l.length) (hj : i < rows.length) (h : ¬ l[i] < (rows[i].length : Int)) (h2 : rows[i].Nodup) : loadG i ((l.zip rows).drop i) = loadG (i + 1) ((l.zip rows).drop (i + 1)) := by
  rw [loadG_at hi hj]; conv => lhs; unfold loadG
  rw [if_neg h, if_neg (fun e => e h2)]
theorem loadG_end {l : List Int} {rows : List (List Int)} {i : Nat} (h : l.length ≤ i) : loadG i ((l.zip rows).drop i) = (0, 0) := by
  rw [List.drop_eq_nil_of_le (by rw [List.length_zip]; omega)]; rfl
theorem nodup_push {r : List Int} {j : Nat} (hj : j < r.length) (h : (r.take j).Nodup) (h2 : r[j] ∉ r.take j) : (r.take (j + 1)).Nodup := by
  rw [List.take_succ_eq_append_getElem hj]
  refine List.nodup_append.2 ⟨h, List.nodup_cons.2 ⟨List.not_mem_nil, List.nodup_nil⟩, fun a ha b hb => ?_⟩
  rw [List.mem_singleton] at hb; subst hb
  exact fun e => h2 (e ▸ ha)
theorem nodup_bad {r : List Int} {j : Nat} (hj : j < r.length) (h2 : r[j] ∈ r.take j) : ¬ r.Nodup := by
  intro h
  have h3 : (r.take (j + 1)).Nodup := h.sublist (List.take_sublist _ _)
  rw [List.take_succ_eq_append_getElem hj] at h3
  exact (List.nodup_append.1 h3).2.2 _ h2 _ (List.mem_singleton.2 rfl) rfl
def LdQ (l : List Int) (rows : List (List Int)) (w : World) (e : Ending) (w' : World) : Prop :=
  ((loadE l rows).2 = 0 → ∃ g gr, e = .returned (.tuple #[pt g, .int .i64 0, .int .i64 0]) ∧ Sep No w w' [AsLs g gr (loadS l rows)]) ∧ ((loadE l rows).2 ≠ 0 → e = .returned (.tuple #[.pointer none, .int .i64 (loadE l rows).1, .int .i64 (loadE l rows).2]) ∧ Ext w w')
theorem ldQ_bad {l : List Int} {rows : List (List Int)} {w w' : World} {a b : Int} (h : loadE l rows = (a, b)) (hb : b ≠ 0) (hx : Ext w w') : LdQ l rows w (.returned (.tuple #[.pointer none, .int .i64 a, .int .i64 b])) w' :=
  ⟨fun h0 => absurd (by rw [h] at h0; exact h0) hb, fun _ => ⟨by rw [h], hx⟩⟩
set_option maxRecDepth 100000 in
set_option maxHeartbeats 4000000 in
theorem load_any (l : List Int) (A : Option Addr) (c : Nat) (rows : List (List Int)) (B : Option Addr) (vs : List Value) (d : Nat) (w : World) (hr : Rd w A (i64s l)) (hB : (AsRows B vs rows).p w) (hlm : l.length ≤ 100000) (hrm : rows.length ≤ 100000) (hrl : ∀ r ∈ rows, r.length ≤ 1000000 ∧ ∀ x ∈ r, 0 ≤ x ∧ x < 4294967296) :
    Calls Tryz.prog 46 #[.slice A l.length c, .slice B rows.length d] w (LdQ l rows w) := by
  have HR := hide hr
  have HB := hide hB
  have HRL := hide hrl
  have HN := hide (new_any l A c w hr hlm)
  clear hr hB hrl
  by_cases h0 : limE l = 0
  · have HLIM := hide h0
    by_cases hl : rows.length = l.length
    · have HGO := hide (loadE_go h0 hl)
      have HLE := hide hl
      have e1 : (((rows.length : Nat) : Int) != ((l.length : Nat) : Int)) = false := by rw [hl]; exact bne_self_eq_false _
      clear h0 hl
      go_enter Tryz.func46, Tryz.ntmps46
      go_wp2_with fail
      (with_reducible refine HN.out.mono ?_)
      rintro e w1 ⟨h1, _⟩
      obtain ⟨g, gr, rfl, hS1⟩ := h1 HLIM.out
      have KK := hide hS1
      clear h1 hS1 HN
      go_wp2_with fail
      go_loopw [4, 32] (fun v4 v32 wr => ∃ (i : Nat) (S : St), v4 = pt g ∧ v32 = .int .i64 i ∧ i ≤ rows.length ∧ Hid (LdS l S i rows []) ∧ Hid (loadE l rows = loadG i ((l.zip rows).drop i)) ∧ Hid (Sep No w wr [AsLs g gr S])) (fun _ v32 _ => rows.length - (intOf v32).toNat)
      case atStart => exact ⟨0, newS l, rfl, rfl, by omega, hide (LdS.start HLIM.out rows), HGO, KK⟩
      case round =>
        obtain ⟨i, S, rfl, rfl, hi, HLD, HG, HK⟩ := hrel
        clear KK
        by_cases hlt : i < rows.length
        · have hlti : (i : Int) < (rows.length : Int) := by omega
          have hll : i < l.length := by rw [← HLE.out]; exact hlt
          have hlli : (i : Int) < (l.length : Int) := by omega
          obtain ⟨ad, hA, cl0⟩ := i64s_at HR.out hll
          obtain ⟨bd, C, cr, hB, cb0, hrow, hcr⟩ := rowsL_at HB.out hlt
          subst hA hB
          have cl := cellX HK.out.toExt cl0
          have cb := cellX HK.out.toExt cb0
          clear cl0 cb0
          obtain ⟨hr1, hr2⟩ := HRL.out _ (List.getElem_mem hlt)
          have HGF := hide (loadG_full hll hlt)
          have HGT := hide (loadG_twice hll hlt)
          have HGN := hide (loadG_next hll hlt)
          have HGD : Hid (rows.getD i [] = rows[i]) := hide (by simp [List.getD_eq_getElem?_getD, hlt])
          obtain ⟨n, hn⟩ : ∃ n, l[i] = n := ⟨_, rfl⟩
          obtain ⟨r, hrr⟩ : ∃ r, rows[i] = r := ⟨_, rfl⟩
          rw [hrr] at cb hrow hcr hr1 hr2
          simp only [hrr, hn] at HGF HGT HGN HGD
          rw [hn] at cl
          have HLN : Hid (∀ s, s < S.length → (((limsS S)[s]?).getD 0) = ((lm S s : Nat) : Int)) := hide (fun s hs => by rw [List.getElem?_eq_getElem (by rw [limsS_len]; exact hs), limsS_get hs]; rfl)
          have HNI : Hid (n = (l[i]?).getD 0) := hide (by rw [List.getElem?_eq_getElem hll, hn]; rfl)
          clear hn hrr
          have HRW := hide hrow
          have HR2 := hide hr2
          clear hrow hr2
          by_cases hful : n < (r.length : Int)
          · have HE := hide (HG.out.trans (HGF.out hful))
            have HX := hide HK.out.toExt
            go_wp2_with fail
            go_ret3
            exact ldQ_bad HE.out (by decide) HX.out
          · have HF := hide hful
            go_wp2_with fail
            go_loopw [4, 47] (fun v4 v47 wy => ∃ (j : Nat) (S' : St), v4 = pt g ∧ v47 = .int .i64 j ∧ j ≤ r.length ∧ Hid (LdS l S' i rows (r.take j)) ∧ Hid ((r.take j).Nodup) ∧ Hid (Sep No w wy [AsLs g gr S'])) (fun _ v47 _ => r.length - (intOf v47).toNat)
            case atStart => exact ⟨0, S, rfl, rfl, by omega, by rw [List.take_zero]; exact HLD, hide (by rw [List.take_zero]; exact List.nodup_nil), HK⟩
            case round =>
              obtain ⟨j, S', rfl, rfl, hj, HLD', HND, HK'⟩ := hrel
              clear HK cl cb
              have hiS : i < S'.length := by rw [HLD'.out.len]; exact hll
              have hwt : wt S' i = r.take j := by rw [HLD'.out.at_ i hiS, if_neg (by omega), if_pos rfl]
              by_cases hjl : j < r.length
              · have hjli : (j : Int) < (r.length : Int) := by omega
                obtain ⟨cd, hC, co0⟩ := u32s_at HRW.out hjl
                subst hC
                have co := cellX HK'.out.toExt co0
                have hor := HR2.out _ (List.getElem_mem hjl)
                have HND2 := hide (nodup_push hjl HND.out)
                have HNB := hide (nodup_bad hjl)
                have HTK : Hid (r.take j ++ [r[j]] = r.take (j + 1)) := hide (List.take_succ_eq_append_getElem hjl).symm
                obtain ⟨o, hoo⟩ : ∃ o, r[j] = o := ⟨_, rfl⟩
                simp only [hoo] at HND2 HNB HTK
                rw [hoo] at co hor
                have hlm' : ((lm S' i : Nat) : Int) = n := by
                  have e1 := limsS_get hiS
                  have e2 : limsS S' = l := HLD'.out.lims
                  rw [HNI.out, ← e2, List.getElem?_eq_getElem (by rw [limsS_len]; exact hiS), e1]; rfl
                have hne : (wt S' i).length ≠ lm S' i := by
                  rw [hwt, List.length_take]
                  have := HF.out
                  omega
                have HJ := hide (join_any (i := (i : Int)) (o := o) (HK'.out.get (A := AsLs g gr S') (List.Mem.head _)) hor)
                obtain ⟨p, HP⟩ : ∃ p, Hid ((joinS S' i o).2.1 = p) := ⟨_, hide rfl⟩
                clear co0 hoo hlm' hor
                by_cases hin : o ∈ r.take j
                · obtain ⟨ea, eb⟩ := join_again hiS hne (by rw [hwt]; exact hin)
                  rw [HP.out, ea, eb] at HJ
                  have HE := hide (HG.out.trans (HGT.out HF.out (HNB.out hin)))
                  clear ea eb hin hne hwt
                  go_wp2_with fail
                  (with_reducible refine HJ.out.mono ?_)
                  rintro e w2 ⟨rfl, hp, hu⟩
                  have HX := hide (sep_ls [] HK'.out hp hu).toExt
                  clear hp hu HJ HK'
                  go_wp2_with fail
                  go_ret3
                  exact ldQ_bad HE.out (by decide) HX.out
                · obtain ⟨ea, eb⟩ := join_push hiS hne (by rw [hwt]; exact hin)
                  rw [HP.out, ea, eb, hwt, HTK.out] at HJ
                  have HL2 := hide (HLD'.out.push (cur' := r.take (j + 1)) hiS)
                  have HN2 := hide (HND2.out hin)
                  clear ea eb hin hne hwt
                  go_wp2_with fail
                  (with_reducible refine HJ.out.mono ?_)
                  rintro e w2 ⟨rfl, hp, hu⟩
                  have K2 := hide (sep_ls [] HK'.out hp hu)
                  clear hp hu HJ HK'
                  go_wp2_with fail
                  go_roundw
                  case rel => first | exact ⟨j + 1, put S' i (r.take (j + 1)), rfl, by go_num, by omega, HL2, HN2, K2⟩ | exact ⟨j + 1, put S' i (r.take (j + 1)), by go_num, by omega, HL2, HN2, K2⟩
                  case measure => simp [intOf]; omega
              · obtain rfl : j = r.length := by omega
                have hjli : ¬ ((r.length : Nat) : Int) < (r.length : Int) := by omega
                have HN3 : Hid r.Nodup := hide (by have := HND.out; rwa [List.take_length] at this)
                have HG3 := hide (HG.out.trans (HGN.out HF.out HN3.out))
                have HL3 := hide (HLD'.out.next (by rw [List.take_length]; exact HGD.out))
                clear hwt
                go_wp2_with fail
                go_roundw
                case rel => first | exact ⟨i + 1, S', rfl, by go_num, by omega, HL3, HG3, HK'⟩ | exact ⟨i + 1, S', by go_num, by omega, HL3, HG3, HK'⟩
                case measure => simp [intOf]; omega
        · obtain rfl : i = rows.length := by omega
          have hlti : ¬ ((rows.length : Nat) : Int) < (rows.length : Int) := by omega
          have HE := hide (HG.out.trans (loadG_end (by rw [HLE.out]; exact Nat.le_refl _)))
          have HS := hide (st_eq HLD.out.lims (HLD.out.rows_eq HLE.out))
          go_wp2_with fail
          go_ret3
          exact ⟨fun _ => ⟨g, gr, rfl, by rw [← HS.out]; exact HK.out⟩, fun h => absurd (by rw [HE.out]) h⟩
    · have HE := hide (loadE_len h0 hl)
      have hli : (((rows.length : Nat) : Int) != ((l.length : Nat) : Int)) = true := bne_iff_ne.2 (by omega)
      clear h0 hl
      go_enter Tryz.func46, Tryz.ntmps46
      go_wp2_with fail
      (with_reducible refine HN.out.mono ?_)
      rintro e w1 ⟨h1, _⟩
      obtain ⟨g, gr, rfl, hS1⟩ := h1 HLIM.out
      have HX := hide hS1.toExt
      clear h1 hS1 HN
      go_wp2_with fail
      go_ret3
      exact ldQ_bad HE.out (by decide) HX.out
  · have HE := hide (loadE_bad (rows := rows) h0)
    obtain ⟨el, HEL⟩ : ∃ y, Hid (limE l = y) := ⟨_, hide rfl⟩
    have hel : el ≠ 0 := by rw [← HEL.out]; exact h0
    have HLIM := hide h0
    have e1 : (el != 0) = true := bne_iff_ne.2 hel
    have e2 : (el == 0) = false := beq_eq_false_iff_ne.2 hel
    rw [HEL.out] at HE
    clear h0
    go_enter Tryz.func46, Tryz.ntmps46
    go_wp2_with fail
    (with_reducible refine HN.out.mono ?_)
    rintro e w1 ⟨_, h1⟩
    obtain ⟨rfl, hx1⟩ := h1 HLIM.out
    rw [HEL.out]
    have HX := hide hx1
    clear h1 hx1 HN
    go_wp2_with fail
    go_ret3
    exact ldQ_bad HE.out hel HX.out
end Go.Proofs.YtdmaephmkfmehaaGreatDoor
namespace Go.Proofs.YtdmaephmkfmehaaGreatDoor
open Go.RowKit Go.Gr Go.Wl
set_option linter.unusedVariables false
set_option linter.unusedSimpArgs false
attribute [local go_sem] rdOp rdAt rdUpon Cls forall_fr
set_option maxRecDepth 100000 in
set_option maxHeartbeats 4000000 in
theorem rnew_own (l : List Int) (A : Option Addr) (c : Nat) (w : World) (hr : Rd w A (i64s l)) (hlm : l.length ≤ 100000) :
    Calls Tryz.prog 43 #[.slice A l.length c] w fun e w' => (limE l = 0 → ∃ A' c' g, e = .returned (.tuple #[rv A' (some ⟨g, 0, none⟩) l.length c' l.length, .int .i64 0]) ∧ Sep No w w' [As.own 3 (.slice A' l.length c') (i64s l), As.blk g 47 (List.replicate l.length (.slice none 0 0))]) ∧ (limE l ≠ 0 → e = .returned (.tuple #[rv none none 0 0 0, .int .i64 (limE l)]) ∧ Ext w w') := by
  obtain ⟨i39, hi, hz0, hz1, hz2⟩ := info_parts info39
  obtain ⟨i64, ki, kz0, kz1, kz2⟩ := info_parts infoI
  have HR := hide hr
  have HLC := hide (fun (x : World) (h : Ext w x) => limited_any l A c x (hr.ext h) hlm)
  have HL1 : Hid (l.length = (i64s l).length) := hide (i64s_len l).symm
  have HB1 : Hid (([] : List Value).length + (i64s l).length ≤ 1000000000) := hide (by rw [i64s_len, List.length_nil]; omega)
  have tok1 : True := trivial
  have tok2 : True := trivial
  clear hr
  by_cases h0 : limE l = 0
  · have HLIM := hide h0
    rw [h0] at HLC
    clear h0
    go_enter Tryz.func43, Tryz.ntmps43
    go_upto_region 1 with (have zz := tok1; clear zz tok1; refine wpList_alS (Sep.refl No w) rfl 82 rfl [.slice none 0 0, .slice none 0 0] (by kernel_rfl) ?_; intro w1 hz1 K1; clear hz1)
    obtain ⟨g2, G2⟩ : ∃ g, w.heap.size = g := ⟨_, rfl⟩
    rw [G2] at K1 ⊢
    have KK := hide K1
    clear K1 G2
    go_wp2_with fail
    (with_reducible refine (HLC.out _ KK.out.toExt).mono ?_)
    rintro e w2 ⟨rfl, rfl⟩
    go_upto_region 4 with fail
    refine wp_region_wf (RT.fr fun k => w1.drew.heap.size ≤ k ∨ k = g2) 5 [1, 3, 4, 0, 2, 5, 6, 7, 8] (by kernel_rfl) (by kernel_rfl) (by kernel_rfl) (by kernel_rfl) (by kernel_rfl) ?_
    have H1 := KK.out.drew
    clear KK
    generalize w1.drew = wd at *
    obtain ⟨SB, hSB⟩ : ∃ s, wd.heap.size = s := ⟨_, rfl⟩
    have hsz1 : SB ≤ wd.heap.size := Nat.le_of_eq hSB.symm
    rw [hSB]
    iterate 3 (refine wf_rd rfl rfl rfl (fun K hK => ?_); go_simp; refine hK _ ?_; clear hK K)
    clear hSB
    refine wf_ext rfl rfl rfl (fun K hK => ?_) ?_
    · go_simp
      refine hK _ _ ((Fr.of_ext ((Ext.refl wd).alloc _)).mono (fun i h => h.elim)) ?_
      clear hK K
      have H2 := bs0 H1 3
      obtain ⟨wb1, hwb⟩ : ∃ x, World.alloc wd (.cells #[] 3) = x := ⟨_, rfl⟩
      have hsz2 : SB ≤ wb1.heap.size := by rw [← hwb]; simp; omega
      rw [hwb] at H2 ⊢
      have hov2 : SB ≤ wd.heap.size := hsz1
      clear hwb H1
      refine wf_ext rfl rfl rfl (fun K hK => ?_) ?_
      · rw [if_pos (show Region.wanted _ _ = true from rfl)]
        refine wp_apS [] H2 (.tmp 11) (.tmp 12) 32 rfl i64 (.int .i64 0) 8 Tryz.underlying32 ki kz0 kz1 kz2 rfl rfl (A := A) (m := l.length) (c := c) (news := i64s l) rfl HL1.out (H2.rdN HR.out) (i64s_one _) HB1.out (by decide) ?_
        intro v13 w2a H3 hf5 hv5
        dsimp only [List.nil_append, List.cons_append] at H3
        have hsz3 : SB ≤ w2a.heap.size := Nat.le_trans hsz2 hf5.size
        refine hK _ _ (hf5.mono (fun j hj => .inl (by cases hj; exact hov2))) ?_
        clear hK K hf5 hv5 H2
        refine wf_at rfl ?_
        refine wmr_ext rfl rfl (fun K hK => ?_)
        rw [if_pos (show Region.wanted _ _ = true from rfl)]
        refine wp_mkG H3 (.tmp 15) (.tmp 15) 25 rfl 47 i39 (.slice none 0 0) 24 Tryz.underlying25 hi hz0 hz1 hz2 rfl rfl rfl (by omega) (by decide) (fun wb3 hzz hxx H4 => ?_)
        refine hK _ _ ((Fr.of_ext hxx).mono (fun i h => h.elim)) ?_
        have hsz4 : SB ≤ wb3.heap.size := by omega
        obtain ⟨g16, hg16⟩ : ∃ g, w2a.heap.size = g := ⟨_, rfl⟩
        rw [hg16] at H4 ⊢
        clear hK K hzz hxx hg16 H3
        obtain ⟨A13, c13, hv13, _, _⟩ := (H4.owns (e := 3) (v := v13) (List.Mem.tail _ (List.Mem.head _))).form
        rw [i64s_len] at hv13
        subst hv13
        have HH := H4.swap
        clear H4
        have H9 := HH
        clear HH
        iterate 1 (refine wmr_rd rfl rfl (fun K hK => ?_); go_simp; refine hK _ ?_; clear hK K)
        refine wmr_ext rfl rfl (fun K hK => ?_)
        rw [if_pos (show Region.wanted _ _ = true from rfl)]
        refine wp_stS [_, _] H9 82 (.tmp 2) (.tmp 17) rfl (cs := [.slice A13 l.length c13, .slice (some ⟨g16, 0, none⟩) l.length l.length]) rfl rfl (by kernel_rfl) rfl (refs_one _ _ rfl rfl) (fun w9 K9 hu9 => hK _ _ ((Fr.of_upd hu9).mono fun k hk => .inr hk) ?_)
        dsimp only [List.nil_append, List.cons_append] at K9
        clear hK K H9 hu9
        iterate 1 (refine wmr_rd rfl rfl (fun K hK => ?_); go_simp; refine hK _ ?_; clear hK K)
        refine wmr_nil ?_
        go_wp2_with fail
        refine bodyPost_ret (v := .tuple #[rv A13 (some ⟨g16, 0, none⟩) l.length c13 l.length, .int .i64 0]) (results_row_tmp rfl _ _ g2 82 #[.slice A13 l.length c13, .slice (some ⟨g16, 0, none⟩) l.length l.length] (0, 0) _ rfl (K9.blk (g := g2) (e := 82) (List.Mem.tail _ (List.Mem.tail _ (List.Mem.head _)))) Tryz.underlying82 rfl (by kernel_rfl) rfl) rfl ⟨fun _ => ⟨_, _, _, rfl, K9.sub (List.cons_sublist_cons.2 (List.cons_sublist_cons.2 (List.nil_sublist _)))⟩, fun h => absurd HLIM.out h⟩
      · refine wmr_ext rfl rfl (fun K hK => ?_)
        rw [if_pos (show Region.wanted _ _ = true from rfl)]
        refine wp_mkG H2 (.tmp 15) (.tmp 15) 25 rfl 47 i39 (.slice none 0 0) 24 Tryz.underlying25 hi hz0 hz1 hz2 rfl rfl rfl (by omega) (by decide) (fun wb2 hzz hxx H3 => ?_)
        refine hK _ _ ((Fr.of_ext hxx).mono (fun i h => h.elim)) ?_
        have hsz3 : SB ≤ wb2.heap.size := by omega
        obtain ⟨g16, hg16⟩ : ∃ g, wb1.heap.size = g := ⟨_, rfl⟩
        rw [hg16] at H3 ⊢
        clear hK K hzz hxx hg16 H2
        refine wmr_ext rfl rfl (fun K hK => ?_)
        rw [if_pos (show Region.wanted _ _ = true from rfl)]
        refine wp_apS [_] H3 (.tmp 11) (.tmp 12) 32 rfl i64 (.int .i64 0) 8 Tryz.underlying32 ki kz0 kz1 kz2 rfl rfl (A := A) (m := l.length) (c := c) (news := i64s l) rfl HL1.out (H3.rdN HR.out) (i64s_one _) HB1.out (by decide) ?_
        intro v13 w3a H4 hf5 hv5
        dsimp only [List.nil_append, List.cons_append] at H4
        have hsz4 : SB ≤ w3a.heap.size := Nat.le_trans hsz3 hf5.size
        refine hK _ _ (hf5.mono (fun j hj => .inl (by cases hj; exact hov2))) ?_
        clear hK K hf5 hv5 H3
        obtain ⟨A13, c13, hv13, _, _⟩ := (H4.owns (e := 3) (v := v13) (List.Mem.tail _ (List.Mem.head _))).form
        rw [i64s_len] at hv13
        subst hv13
        have HH := H4.swap
        clear H4
        have H9 := HH
        clear HH
        iterate 1 (refine wmr_rd rfl rfl (fun K hK => ?_); go_simp; refine hK _ ?_; clear hK K)
        refine wmr_ext rfl rfl (fun K hK => ?_)
        rw [if_pos (show Region.wanted _ _ = true from rfl)]
        refine wp_stS [_, _] H9 82 (.tmp 2) (.tmp 17) rfl (cs := [.slice A13 l.length c13, .slice (some ⟨g16, 0, none⟩) l.length l.length]) rfl rfl (by kernel_rfl) rfl (refs_one _ _ rfl rfl) (fun w9 K9 hu9 => hK _ _ ((Fr.of_upd hu9).mono fun k hk => .inr hk) ?_)
        dsimp only [List.nil_append, List.cons_append] at K9
        clear hK K H9 hu9
        iterate 1 (refine wmr_rd rfl rfl (fun K hK => ?_); go_simp; refine hK _ ?_; clear hK K)
        refine wmr_nil ?_
        go_wp2_with fail
        refine bodyPost_ret (v := .tuple #[rv A13 (some ⟨g16, 0, none⟩) l.length c13 l.length, .int .i64 0]) (results_row_tmp rfl _ _ g2 82 #[.slice A13 l.length c13, .slice (some ⟨g16, 0, none⟩) l.length l.length] (0, 0) _ rfl (K9.blk (g := g2) (e := 82) (List.Mem.tail _ (List.Mem.tail _ (List.Mem.head _)))) Tryz.underlying82 rfl (by kernel_rfl) rfl) rfl ⟨fun _ => ⟨_, _, _, rfl, K9.sub (List.cons_sublist_cons.2 (List.cons_sublist_cons.2 (List.nil_sublist _)))⟩, fun h => absurd HLIM.out h⟩
    · refine wmr_ext rfl rfl (fun K hK => ?_)
      rw [if_pos (show Region.wanted _ _ = true from rfl)]
      refine wp_mkG H1 (.tmp 15) (.tmp 15) 25 rfl 47 i39 (.slice none 0 0) 24 Tryz.underlying25 hi hz0 hz1 hz2 rfl rfl rfl (by omega) (by decide) (fun wb1 hzz hxx H2 => ?_)
      refine hK _ _ ((Fr.of_ext hxx).mono (fun i h => h.elim)) ?_
      have hsz2 : SB ≤ wb1.heap.size := by omega
      obtain ⟨g16, hg16⟩ : ∃ g, wd.heap.size = g := ⟨_, rfl⟩
      rw [hg16] at H2 ⊢
      clear hK K hzz hxx hg16 H1
      refine wmr_ext rfl rfl (fun K hK => ?_)
      go_simp
      refine hK _ _ ((Fr.of_ext ((Ext.refl wb1).alloc _)).mono (fun i h => h.elim)) ?_
      clear hK K
      have H3 := bs0 H2 3
      obtain ⟨wb2, hwb⟩ : ∃ x, World.alloc wb1 (.cells #[] 3) = x := ⟨_, rfl⟩
      have hsz3 : SB ≤ wb2.heap.size := by rw [← hwb]; simp; omega
      rw [hwb] at H3 ⊢
      have hov3 : SB ≤ wb1.heap.size := hsz2
      clear hwb H2
      refine wmr_ext rfl rfl (fun K hK => ?_)
      rw [if_pos (show Region.wanted _ _ = true from rfl)]
      refine wp_apS [] H3 (.tmp 11) (.tmp 12) 32 rfl i64 (.int .i64 0) 8 Tryz.underlying32 ki kz0 kz1 kz2 rfl rfl (A := A) (m := l.length) (c := c) (news := i64s l) rfl HL1.out (H3.rdN HR.out) (i64s_one _) HB1.out (by decide) ?_
      intro v13 w3a H4 hf5 hv5
      dsimp only [List.nil_append, List.cons_append] at H4
      have hsz4 : SB ≤ w3a.heap.size := Nat.le_trans hsz3 hf5.size
      refine hK _ _ (hf5.mono (fun j hj => .inl (by cases hj; exact hov3))) ?_
      clear hK K hf5 hv5 H3
      obtain ⟨A13, c13, hv13, _, _⟩ := (H4.owns (e := 3) (v := v13) (List.Mem.head _)).form
      rw [i64s_len] at hv13
      subst hv13
      have HH := H4
      clear H4
      have H9 := HH
      clear HH
      iterate 1 (refine wmr_rd rfl rfl (fun K hK => ?_); go_simp; refine hK _ ?_; clear hK K)
      refine wmr_ext rfl rfl (fun K hK => ?_)
      rw [if_pos (show Region.wanted _ _ = true from rfl)]
      refine wp_stS [_, _] H9 82 (.tmp 2) (.tmp 17) rfl (cs := [.slice A13 l.length c13, .slice (some ⟨g16, 0, none⟩) l.length l.length]) rfl rfl (by kernel_rfl) rfl (refs_one _ _ rfl rfl) (fun w9 K9 hu9 => hK _ _ ((Fr.of_upd hu9).mono fun k hk => .inr hk) ?_)
      dsimp only [List.nil_append, List.cons_append] at K9
      clear hK K H9 hu9
      iterate 1 (refine wmr_rd rfl rfl (fun K hK => ?_); go_simp; refine hK _ ?_; clear hK K)
      refine wmr_nil ?_
      go_wp2_with fail
      refine bodyPost_ret (v := .tuple #[rv A13 (some ⟨g16, 0, none⟩) l.length c13 l.length, .int .i64 0]) (results_row_tmp rfl _ _ g2 82 #[.slice A13 l.length c13, .slice (some ⟨g16, 0, none⟩) l.length l.length] (0, 0) _ rfl (K9.blk (g := g2) (e := 82) (List.Mem.tail _ (List.Mem.tail _ (List.Mem.head _)))) Tryz.underlying82 rfl (by kernel_rfl) rfl) rfl ⟨fun _ => ⟨_, _, _, rfl, K9.sub (List.cons_sublist_cons.2 (List.cons_sublist_cons.2 (List.nil_sublist _)))⟩, fun h => absurd HLIM.out h⟩
  · obtain ⟨el, HEL⟩ : ∃ x, Hid (limE l = x) := ⟨_, hide rfl⟩
    rw [HEL.out] at HLC
    have h0' : el ≠ 0 := by rw [← HEL.out]; exact h0
    have e1 : (el != 0) = true := bne_iff_ne.2 h0'
    have HN := hide h0
    clear h0
    go_enter Tryz.func43, Tryz.ntmps43
    go_upto_region 1 with (have zz := tok1; clear zz tok1; refine wpList_alS (Sep.refl No w) rfl 82 rfl [.slice none 0 0, .slice none 0 0] (by kernel_rfl) ?_; intro w1 hz1 K1; clear hz1)
    obtain ⟨g2, G2⟩ : ∃ g, w.heap.size = g := ⟨_, rfl⟩
    rw [G2] at K1 ⊢
    have KK := hide K1
    clear K1 G2
    go_wp2_with fail
    (with_reducible refine (HLC.out _ KK.out.toExt).mono ?_)
    rintro e w2 ⟨rfl, rfl⟩
    go_wp2_with (have zz := tok2; clear zz tok2; refine wpList_stS [] KK.out rfl 82 (.tmp 2) (.tmp 9) rfl rfl (cs := [.slice none 0 0, .slice none 0 0]) rfl (by kernel_rfl) rfl (refs_one _ _ rfl rfl) ?_; intro w9 K9; dsimp only [List.nil_append] at K9)
    refine bodyPost_ret (v := .tuple #[rv none none 0 0 0, .int .i64 el]) (results_row_tmp rfl _ _ g2 82 #[.slice none 0 0, .slice none 0 0] (0, 0) _ rfl (K9.blk (g := g2) (e := 82) (List.Mem.head _)) Tryz.underlying82 rfl (by kernel_rfl) rfl) rfl ⟨fun h => absurd h HN.out, fun _ => ⟨by rw [HEL.out], K9.toExt⟩⟩
end Go.Proofs.YtdmaephmkfmehaaGreatDoor
namespace Go.Proofs.YtdmaephmkfmehaaGreatDoor
open Go.RowKit Go.Gr Go.Wl
set_option linter.unusedVariables false
set_option linter.unusedSimpArgs false
attribute [local go_sem] rdOp rdAt rdUpon Cls forall_fr
theorem lims_load {l : List Int} {rows : List (List Int)} (h : limE l = 0) (hl : rows.length = l.length) : limsS (loadS l rows) = l := by
  unfold limsS loadS
  rw [List.map_map]
  refine (List.map_congr_left (g := Prod.fst) fun p hp => ?_).trans (List.map_fst_zip (by omega))
  have := (limE_zero h).2.2 p.1 (List.of_mem_zip hp).1
  show ((p.1.toNat : Nat) : Int) = p.1
  omega
theorem rows_load {l : List Int} {rows : List (List Int)} (hl : rows.length = l.length) : rowsS (loadS l rows) = rows := by
  unfold rowsS loadS
  rw [List.map_map]
  exact List.map_snd_zip (by omega)
theorem sep_load {w w' : World} {A' : Option Addr} {c' g : Nat} {vs : List Value} {l : List Int} {rows : List (List Int)} {S : St} (h1 : limsS S = l) (h2 : rowsS S = rows) (H : Sep No w w' [AsIn vs rows, As.own 3 (.slice A' l.length c') (i64s l), As.blk g 47 vs]) : Sep No w w' [AsRf A' (some ⟨g, 0, none⟩) vs S] := by
  subst h1 h2
  obtain ⟨A, c, e', hr, _⟩ := (H.owns (e := 3) (List.Mem.tail _ (List.Mem.head _))).form
  rw [i64s_len] at e'
  cases e'
  have H1 := (H.rot).weak [] (B := As.rd A' (i64s (limsS S))) (fun _ => hr) (fun i ⟨hne, ad, e, hi⟩ => by subst e; subst hi; rfl)
  have H2 := Sep.weak [_] H1 (B := As.rd (some ⟨g, 0, none⟩) vs) (fun hb => Blk.rd hb) (fun i ⟨hne, ad, e, hi⟩ => by cases e; subst hi; rfl)
  dsimp only [List.nil_append, List.cons_append] at H2
  have H3 := (sep_rows H2.rot).swap
  exact H3.merge (C := AsRf A' (some ⟨g, 0, none⟩) vs S) (fun ha hb => ⟨ha, hb⟩) (fun i hi => hi)
def RLdQ (l : List Int) (rows : List (List Int)) (w : World) (e : Ending) (w' : World) : Prop :=
  ((loadE l rows).2 = 0 → ∃ A' c' B' d' vs, e = .returned (.tuple #[rv A' B' l.length c' d', .int .i64 0, .int .i64 0]) ∧ Sep No w w' [AsRf A' B' vs (loadS l rows)]) ∧ ((loadE l rows).2 ≠ 0 → e = .returned (.tuple #[rv none none 0 0 0, .int .i64 (loadE l rows).1, .int .i64 (loadE l rows).2]) ∧ Ext w w')
theorem rldQ_bad {l : List Int} {rows : List (List Int)} {w w' : World} {a b : Int} (h : loadE l rows = (a, b)) (hb : b ≠ 0) (hx : Ext w w') : RLdQ l rows w (.returned (.tuple #[rv none none 0 0 0, .int .i64 a, .int .i64 b])) w' :=
  ⟨fun h0 => absurd (by rw [h] at h0; exact h0) hb, fun _ => ⟨by rw [h], hx⟩⟩
theorem set_next {vs : List Value} {n i : Nat} (h : vs.length = i) (hi : i < n) (v z : Value) : (vs ++ List.replicate (n - i) z).set i v = (vs ++ [v]) ++ List.replicate (n - (i + 1)) z := by
  subst h
  obtain ⟨m, rfl⟩ : ∃ m, n = vs.length + 1 + m := ⟨n - vs.length - 1, by omega⟩
  rw [show vs.length + 1 + m - vs.length = m + 1 by omega, show vs.length + 1 + m - (vs.length + 1) = m by omega, List.replicate_succ]
  simp
set_option maxRecDepth 100000 in
set_option maxHeartbeats 8000000 in
theorem rload_any (l : List Int) (A : Option Addr) (c : Nat) (rows : List (List Int)) (B : Option Addr) (vs : List Value) (d : Nat) (w : World) (hr : Rd w A (i64s l)) (hB : (AsRows B vs rows).p w) (hlm : l.length ≤ 100000) (hrm : rows.length ≤ 100000) (hrl : ∀ r ∈ rows, r.length ≤ 1000000 ∧ ∀ x ∈ r, 0 ≤ x ∧ x < 4294967296) :
    Calls Tryz.prog 69 #[.slice A l.length c, .slice B rows.length d] w (RLdQ l rows w) := by
  obtain ⟨i32, ki, kz0, kz1, kz2⟩ := info_parts info32
  have HR := hide hr
  have HB := hide hB
  have HRL := hide hrl
  have HN := hide (fun (y : World) (h : Ext w y) => rnew_own l A c y (hr.ext h) hlm)
  have tok1 : True := trivial
  have tok2 : True := trivial
  have tok3 : True := trivial
  have tok4 : True := trivial
  clear hr hB hrl
  by_cases h0 : limE l = 0
  · have HLIM := hide h0
    by_cases hl : rows.length = l.length
    · have HGO := hide (loadE_go h0 hl)
      have HLE := hide hl
      have e1 : (((rows.length : Nat) : Int) != ((l.length : Nat) : Int)) = false := by rw [hl]; exact bne_self_eq_false _
      clear h0 hl
      go_enter Tryz.func69, Tryz.ntmps69
      go_upto_region 1 with (have zz := tok1; clear zz tok1; refine wpList_alS (Sep.refl No w) rfl 82 rfl [.slice none 0 0, .slice none 0 0] (by kernel_rfl) ?_; intro w1 hz1 K1; clear hz1)
      obtain ⟨g4, G4⟩ : ∃ g, w.heap.size = g := ⟨_, rfl⟩
      rw [G4] at K1 ⊢
      have HG4 := hide G4
      have KK := hide K1
      clear K1 G4
      go_wp2_with fail
      (with_reducible refine (HN.out _ KK.out.toExt).mono ?_)
      rintro e w2 ⟨h2, _⟩
      obtain ⟨A', c', gB, rfl, hS2⟩ := h2 HLIM.out
      have K2 := KK.out.joinW hS2
      have hgB : gB < w2.heap.size := (hS2.blk (g := gB) (e := 47) (List.Mem.tail _ (List.Mem.head _))).lt
      have hwB : w.heap.size ≤ gB := by
        rcases K2.own _ (List.Mem.tail _ (List.Mem.head _)) gB rfl with h | h
        · exact h.elim
        · exact h
      clear KK h2 hS2 HN
      go_upto_region 6 with (first
        | (have zz := tok2; clear zz tok2; refine wpList_alS K2 rfl 82 rfl [.slice none 0 0, .slice none 0 0] (by kernel_rfl) ?_; intro w3 hz3 K3; clear hz3)
        | (have zz := tok3; clear zz tok3; refine wpList_stS [] K3 rfl 82 (.tmp 7) (.tmp 15) rfl rfl (cs := [.slice A' l.length c', .slice (some ⟨gB, 0, none⟩) l.length l.length]) rfl (by kernel_rfl) rfl (refs_one _ _ rfl rfl) ?_; intro w4 K4; dsimp only [List.nil_append] at K4))
      obtain ⟨g7, G7⟩ : ∃ g, w2.heap.size = g := ⟨_, rfl⟩
      rw [G7] at K4 hgB ⊢
      have K9 := hide K4
      clear K4 G7
      go_wp2_with fail
      go_loopw [9] (fun v9 wr => ∃ i : Nat, v9 = .int .i64 i ∧ i ≤ rows.length ∧ Hid (loadE l rows = loadG i ((l.zip rows).drop i)) ∧ Hid (Sep No w wr [As.blk g7 82 [.slice A' l.length c', .slice (some ⟨gB, 0, none⟩) l.length l.length], As.own 3 (.slice A' l.length c') (i64s l), As.blk gB 47 (List.replicate l.length (.slice none 0 0)), As.blk g4 82 [.slice none 0 0, .slice none 0 0]])) (fun v9 _ => rows.length - (intOf v9).toNat)
      case atStart => exact ⟨0, rfl, by omega, HGO, K9⟩
      case round =>
        obtain ⟨i, rfl, hi, HG, HK⟩ := hrel
        clear K9
        by_cases hlt : i < rows.length
        · have hlti : (i : Int) < (rows.length : Int) := by omega
          have hll : i < l.length := by rw [← HLE.out]; exact hlt
          have hlli : (i : Int) < (l.length : Int) := by omega
          obtain ⟨ad, hA, cl0⟩ := i64s_at HR.out hll
          obtain ⟨bd, C, cr, hB, cb0, hrow, hcr⟩ := rowsL_at HB.out hlt
          subst hA hB
          have HCL := hide (fun (z : World) (x : Ext w z) => cellX x cl0)
          have HCB := hide (fun (z : World) (x : Ext w z) => cellX x cb0)
          have hbsz : bd.block < w.heap.size := by have := cell_lt cb0; rwa [add_block] at this

          obtain ⟨hr1, hr2⟩ := HRL.out _ (List.getElem_mem hlt)
          have HGF := hide (loadG_full hll hlt)
          have HGT := hide (loadG_twice hll hlt)
          have HGN := hide (loadG_next hll hlt)
          obtain ⟨n, hn⟩ : ∃ n, l[i] = n := ⟨_, rfl⟩
          obtain ⟨r, hrr⟩ : ∃ r, rows[i] = r := ⟨_, rfl⟩
          rw [hrr] at hrow hcr hr1 hr2
          simp only [hrr, hn] at HGF HGT HGN HCL HCB
          have HRW := hide hrow
          clear hn hrr hrow hr2 cl0 cb0
          go_upto_region 9 with fail
          refine wp_region_wm [0, 1, 2, 3, 4, 5, 6, 7, 8, 9] (by kernel_rfl) (by kernel_rfl) (by kernel_rfl) (by kernel_rfl) ?_
          have H1 := HK.out.drew
          clear HK
          generalize World.drew _ = wd at *
          have CL := hide (HCL.out _ H1.toExt)
          have CB := hide (HCB.out _ H1.toExt)
          have KD := hide H1
          clear H1
          iterate 3 (refine wm_rd rfl rfl (fun K hK => ?_); go_simp; refine hK _ ?_; clear hK K)
          refine wm_ld1 rfl rfl 47 (.tmp 38) rfl rfl CB.out _ Tryz.underlying47 rfl ?_
          iterate 4 (refine wm_rd rfl rfl (fun K hK => ?_); go_simp; refine hK _ ?_; clear hK K)
          refine wm_ld1 rfl rfl 3 (.tmp 43) rfl rfl CL.out _ Tryz.underlying3 rfl ?_
          iterate 1 (refine wm_rd rfl rfl (fun K hK => ?_); go_simp; refine hK _ ?_; clear hK K)
          refine wm_nil ?_
          clear CL CB

          by_cases hful : n < (r.length : Int)
          · have HE := hide (HG.out.trans (HGF.out hful))
            have K4 := KD.out
            go_wp2_with (have zz := tok4; clear zz tok4; refine wpList_stS [_, _, _] K4 rfl 82 (.tmp 4) (.tmp 46) rfl rfl (cs := [.slice none 0 0, .slice none 0 0]) rfl (by kernel_rfl) rfl (refs_one _ _ rfl rfl) ?_; intro w5 K5; dsimp only [List.nil_append, List.cons_append] at K5)
            refine bodyPost_ret (v := .tuple #[rv none none 0 0 0, .int .i64 i, .int .i64 5]) (wresults_ctt rfl _ _ g4 82 [.slice none 0 0, .slice none 0 0] _ rfl (K5.blk (g := g4) (e := 82) (List.Mem.tail _ (List.Mem.tail _ (List.Mem.tail _ (List.Mem.head _))))) Tryz.underlying82 rfl (by kernel_rfl) rfl rfl) rfl (rldQ_bad HE.out (by decide) K5.toExt)
          · have HF := hide hful
            go_wp2_with fail
            go_loopw [10] (fun v10 wy => ∃ j : Nat, v10 = .int .i64 j ∧ j ≤ r.length ∧ Hid ((r.take j).Nodup) ∧ Hid (Sep No w wy [As.blk g7 82 [.slice A' l.length c', .slice (some ⟨gB, 0, none⟩) l.length l.length], As.own 3 (.slice A' l.length c') (i64s l), As.blk gB 47 (List.replicate l.length (.slice none 0 0)), As.blk g4 82 [.slice none 0 0, .slice none 0 0]])) (fun v10 _ => r.length - (intOf v10).toNat)
            case atStart => exact ⟨0, rfl, by omega, hide (by rw [List.take_zero]; exact List.nodup_nil), KD⟩
            case round =>
              obtain ⟨j, rfl, hj, HND, HK'⟩ := hrel
              clear KD
              have cbw := HCB.out _ HK'.out.toExt
              by_cases hjl : j < r.length
              · have hjli : (j : Int) < (r.length : Int) := by omega
                obtain ⟨cd, hC, co0⟩ := u32s_at HRW.out hjl
                subst hC
                have HND2 := hide (nodup_push hjl HND.out)
                have HNB := hide (nodup_bad hjl)
                have hjc : (j : Int) ≤ (cr : Int) := by omega
                have hc0 : ¬ cr = 0 := by omega
                have HTL : (r.take j).length = j := by rw [List.length_take]; omega
                have HPL := hide (fun (z : World) (x : Ext w z) => by
                  have e := rplace_any (r.take j) r[j] (some cd) cr z (by rw [← u32s_take]; exact (HRW.out.ext x).take_ j) (by rw [HTL]; omega)
                  rw [HTL] at e
                  exact e)
                obtain ⟨o, hoo⟩ : ∃ o, r[j] = o := ⟨_, rfl⟩
                simp only [hoo] at HND2 HNB HPL
                have HCO := hide (fun (z : World) (x : Ext w z) => cellX x co0)
                rw [hoo] at HCO
                obtain ⟨q, hq⟩ : ∃ q, fnd (r.take j) o + 1 = q := ⟨_, rfl⟩
                rw [hq] at HPL
                have HQ := hide hq
                clear hq hoo co0 HTL
                go_upto_region 14 with fail
                clear cbw
                refine wp_region_wm [0, 1, 2, 3, 4, 5, 6, 7, 8, 9, 10, 11, 12, 13, 14] (by kernel_rfl) (by kernel_rfl) (by kernel_rfl) (by kernel_rfl) ?_
                have H1 := HK'.out.drew
                clear HK'
                generalize World.drew _ = wd at *
                have CB := hide (HCB.out _ H1.toExt)
                have CO := hide (HCO.out _ H1.toExt)
                have JP := hide (HPL.out _ H1.toExt)
                have KD' := hide H1
                clear H1
                iterate 3 (refine wm_rd rfl rfl (fun K hK => ?_); go_simp; refine hK _ ?_; clear hK K)
                refine wm_ld1 rfl rfl 47 (.tmp 59) rfl rfl CB.out _ Tryz.underlying47 rfl ?_
                iterate 5 (refine wm_rd rfl rfl (fun K hK => ?_); go_simp; refine hK _ ?_; clear hK K)
                refine wm_ld1 rfl rfl 47 (.tmp 65) rfl rfl CB.out _ Tryz.underlying47 rfl ?_
                iterate 2 (refine wm_rd rfl rfl (fun K hK => ?_); go_simp; refine hK _ ?_; clear hK K)
                refine wm_ld1 rfl rfl 41 (.tmp 68) rfl rfl CO.out _ Tryz.underlying41 rfl ?_
                refine wm_ext rfl rfl (fun K hK => ?_)
                go_simp
                go_at_call 106
                (with_reducible refine JP.out.mono ?_)
                rintro e wz ⟨rfl, rfl⟩
                refine hK _ _ (Ext.refl _) ?_
                clear hK K CB CO JP
                iterate 1 (refine wm_rd rfl rfl (fun K hK => ?_); go_simp; refine hK _ ?_; clear hK K)
                refine wm_nil ?_
                by_cases hin : o ∈ r.take j
                · have hgt : 0 < q := by rw [← HQ.out, fnd_in hin]; omega
                  have HE := hide (HG.out.trans (HGT.out HF.out (HNB.out hin)))
                  clear hin
                  have K4 := KD'.out
                  have tok4 : True := trivial
                  go_wp2_with (have zz := tok4; clear zz tok4; refine wpList_stS [_, _, _] K4 rfl 82 (.tmp 4) (.tmp 72) rfl rfl (cs := [.slice none 0 0, .slice none 0 0]) rfl (by kernel_rfl) rfl (refs_one _ _ rfl rfl) ?_; intro w5 K5; dsimp only [List.nil_append, List.cons_append] at K5)
                  refine bodyPost_ret (v := .tuple #[rv none none 0 0 0, .int .i64 i, .int .i64 8]) (wresults_ctt rfl _ _ g4 82 [.slice none 0 0, .slice none 0 0] _ rfl (K5.blk (g := g4) (e := 82) (List.Mem.tail _ (List.Mem.tail _ (List.Mem.tail _ (List.Mem.head _))))) Tryz.underlying82 rfl (by kernel_rfl) rfl rfl) rfl (rldQ_bad HE.out (by decide) K5.toExt)
                · have hgt : ¬ 0 < q := by rw [← HQ.out, fnd_out hin]; omega
                  have HN2 := hide (HND2.out hin)
                  clear hin
                  go_wp2_with fail
                  go_roundw
                  case rel => first | exact ⟨j + 1, by go_num, by omega, HN2, KD'⟩ | exact ⟨j + 1, by omega, HN2, KD'⟩
                  case measure => simp [intOf]; omega
              · obtain rfl : j = r.length := by omega
                have hjli : ¬ ((r.length : Nat) : Int) < (r.length : Int) := by omega
                have HN3 : Hid r.Nodup := hide (by have := HND.out; rwa [List.take_length] at this)
                have HG3 := hide (HG.out.trans (HGN.out HF.out HN3.out))
                go_wp2_with fail
                go_roundw
                case rel => first | exact ⟨i + 1, by go_num, by omega, HG3, HK'⟩ | exact ⟨i + 1, by omega, HG3, HK'⟩
                case measure => simp [intOf]; omega
        · obtain rfl : i = rows.length := by omega
          have hlti : ¬ ((rows.length : Nat) : Int) < (rows.length : Int) := by omega
          have HE := hide (HG.out.trans (loadG_end (by rw [HLE.out]; exact Nat.le_refl _)))
          go_wp2_with fail
          go_loopw [11] (fun v11 wr => ∃ (i : Nat) (vs : List Value), v11 = .int .i64 i ∧ i ≤ rows.length ∧ vs.length = i ∧ Hid (Sep No w wr [AsIn vs (rows.take i), As.blk g7 82 [.slice A' l.length c', .slice (some ⟨gB, 0, none⟩) l.length l.length], As.own 3 (.slice A' l.length c') (i64s l), As.blk gB 47 (vs ++ List.replicate (l.length - i) (Value.slice none 0 0)), As.blk g4 82 [.slice none 0 0, .slice none 0 0]])) (fun v11 _ => rows.length - (intOf v11).toNat)
          case atStart => exact ⟨0, [], rfl, by omega, rfl, hide (by rw [List.take_zero, List.nil_append, Nat.sub_zero]; exact sep_in_nil HK.out)⟩
          case round =>
            obtain ⟨i, vs, rfl, hi, hvl, HK⟩ := hrel
            by_cases hlt : i < rows.length
            · have hlti : (i : Int) < (rows.length : Int) := by omega
              have hll : i < l.length := by rw [← HLE.out]; exact hlt
              have hlli : (i : Int) < (l.length : Int) := by omega
              obtain ⟨ad, hA, cl0⟩ := i64s_at HR.out hll
              obtain ⟨bd, C, cr, hB, cb0, hrow, hcr⟩ := rowsL_at HB.out hlt
              subst hA hB
              have HCL := hide (fun (z : World) (x : Ext w z) => cellX x cl0)
              have HCB := hide (fun (z : World) (x : Ext w z) => cellX x cb0)
              have hbsz : bd.block < w.heap.size := by have := cell_lt cb0; rwa [add_block] at this

              obtain ⟨hr1, hr2⟩ := HRL.out _ (List.getElem_mem hlt)
              have HTK : Hid (rows.take i ++ [rows[i]] = rows.take (i + 1)) := hide (List.take_succ_eq_append_getElem hlt).symm
              have HSN := hide (fun (v : Value) => set_next hvl hll v (Value.slice none 0 0))
              have HIL : Hid (i < (vs ++ List.replicate (l.length - i) (Value.slice none 0 0)).length) := hide (by rw [List.length_append, List.length_replicate]; omega)
              obtain ⟨r, hrr⟩ : ∃ r, rows[i] = r := ⟨_, rfl⟩
              rw [hrr] at hrow hcr hr1 hr2 HCB HTK
              have HRW := hide hrow
              have HRL1 := hide (u32s_len r).symm
              have HRB : Hid (([] : List Value).length + (u32s r).length ≤ 1000000000) := hide (by rw [u32s_len, List.length_nil]; omega)
              clear hrr hrow hr2 cl0 cb0 HCL
              go_upto_region 19 with fail
              refine wp_region_wmr (RT.fr fun k => wr.drew.heap.size ≤ k ∨ k = gB) [0, 1, 2, 4, 5, 6, 7, 3, 8, 9, 10] (by kernel_rfl) (by kernel_rfl) (by kernel_rfl) (by kernel_rfl) ?_
              have H1 := HK.out.drew
              clear HK
              generalize World.drew _ = wd at *
              have hB7 := H1.blk (g := g7) (e := 82) (cs := [.slice A' l.length c', .slice (some ⟨gB, 0, none⟩) l.length l.length]) (List.Mem.tail _ (List.Mem.head _))
              have hg7 := hB7.lt
              have hwsz := H1.fr.size
              have CB := hide (HCB.out _ H1.toExt)
              iterate 1 (refine wmr_rd rfl rfl (fun K hK => ?_); go_simp; refine hK _ ?_; clear hK K)
              refine wmr_ld1 rfl rfl 25 (.tmp 80) rfl rfl (fun w' h' => ((h'.blk hB7 (by omega)).cell 1).trans rfl) _ Tryz.underlying25 rfl ?_
              iterate 4 (refine wmr_rd rfl rfl (fun K hK => ?_); go_simp; refine hK _ ?_; clear hK K)
              refine wmr_ld1 rfl rfl 47 (.tmp 86) rfl rfl (fun w' h' => h'.cell CB.out (by rw [add_block]; omega)) _ Tryz.underlying47 rfl ?_
              clear hB7 CB
              refine wmr_ext rfl rfl (fun K hK => ?_)
              go_simp
              refine hK _ _ ((Fr.of_ext ((Ext.refl wd).alloc _)).mono (fun i h => h.elim)) ?_
              clear hK K
              have H2 := bs0 H1 41
              obtain ⟨wb, hwb⟩ : ∃ x, World.alloc wd (.cells #[] 41) = x := ⟨_, rfl⟩
              rw [hwb] at H2 ⊢
              have hszb : wd.heap.size ≤ wb.heap.size := by rw [← hwb]; simp
              clear hwb H1
              refine wmr_ext rfl rfl (fun K hK => ?_)
              rw [if_pos (show Region.wanted _ _ = true from rfl)]
              refine wp_apS [] H2 (.tmp 83) (.tmp 87) 47 rfl i32 (.int .u32 0) 4 Tryz.underlying47 ki kz0 kz1 kz2 rfl rfl (A := C) (m := r.length) (c := cr) (news := u32s r) rfl HRL1.out (HRW.out.ext H2.toExt) (u32s_one _) HRB.out (by decide) ?_
              intro v13 w4 H3 hf5 hv5
              dsimp only [List.nil_append, List.cons_append] at H3
              refine hK _ _ (hf5.mono (fun j hj => .inl (by cases hj; exact Nat.le_refl _))) ?_
              clear hK K hf5 hv5 H2
              obtain ⟨C16, c16, hv16, hc16, hr16⟩ := own_row (H3.owns (e := 41) (v := v13) (List.Mem.head _))
              subst hv16
              clear hc16 hr16
              iterate 1 (refine wmr_rd rfl rfl (fun K hK => ?_); go_simp; refine hK _ ?_; clear hK K)
              refine wmr_ext rfl rfl (fun K hK => ?_)
              rw [if_pos (show Region.wanted _ _ = true from rfl)]
              refine wp_st1S [_, _, _, _] H3 47 (.tmp 89) (.tmp 88) rfl (v := .slice C16 r.length c16) (i := i) (by first | rfl | simp [Addr.add]) rfl (by kernel_rfl) HIL.out rfl (fun w6 H4 hu4 => hK _ _ ((Fr.of_upd hu4).mono fun k hk => .inr hk) ?_)
              dsimp only [List.nil_append, List.cons_append] at H4
              clear hK K hu4 H3
              refine wmr_nil ?_
              have K4 : Hid (Sep No w w6 [AsIn (vs ++ [.slice C16 r.length c16]) (rows.take (i + 1)), As.blk g7 82 [.slice A' l.length c', .slice (some ⟨gB, 0, none⟩) l.length l.length], As.own 3 (.slice A' l.length c') (i64s l), As.blk gB 47 ((vs ++ [.slice C16 r.length c16]) ++ List.replicate (l.length - (i + 1)) (Value.slice none 0 0)), As.blk g4 82 [.slice none 0 0, .slice none 0 0]]) := hide (by
                have e := sep_in_push H4
                rw [HSN.out, HTK.out] at e
                exact e)
              clear H4
              go_wp2_with fail
              go_roundw
              case rel => first | exact ⟨i + 1, _, by go_num, by omega, by rw [List.length_append, hvl]; rfl, K4⟩ | exact ⟨i + 1, _, by omega, by rw [List.length_append, hvl]; rfl, K4⟩
              case measure => simp [intOf]; omega
            · obtain rfl : i = rows.length := by omega
              have hlti : ¬ ((rows.length : Nat) : Int) < (rows.length : Int) := by omega
              have K4 := HK.out
              rw [List.take_length, HLE.out, Nat.sub_self, List.replicate_zero, List.append_nil] at K4
              have tok5 : True := trivial
              have tok6 : True := trivial
              clear HK
              rw [HLE.out]
              go_wp2_with (first
                | (have zz := tok5; clear zz tok5; refine wpList_ldS K4 (List.Mem.tail _ (List.Mem.head _)) rfl 82 (.tmp 7) rfl rfl _ Tryz.underlying82 rfl (by kernel_rfl) ?_)
                | (have zz := tok6; clear zz tok6; refine wpList_stS [_, _, _, _] K4 rfl 82 (.tmp 4) (.tmp 90) rfl rfl (cs := [.slice A' l.length c', .slice (some ⟨gB, 0, none⟩) l.length l.length]) rfl (by kernel_rfl) rfl (refs_one _ _ rfl rfl) ?_; intro w6 K6; dsimp only [List.nil_append, List.cons_append] at K6; clear K4))
              refine bodyPost_ret (v := .tuple #[rv A' (some ⟨gB, 0, none⟩) l.length c' l.length, .int .i64 0, .int .i64 0]) (wresults_ctt rfl _ _ g4 82 [.slice A' l.length c', .slice (some ⟨gB, 0, none⟩) l.length l.length] _ rfl (K6.blk (g := g4) (e := 82) (List.Mem.tail _ (List.Mem.tail _ (List.Mem.tail _ (List.Mem.tail _ (List.Mem.head _)))))) Tryz.underlying82 rfl (by kernel_rfl) rfl rfl) rfl ⟨fun _ => ⟨_, _, _, _, vs, rfl, sep_load (lims_load HLIM.out HLE.out) (rows_load HLE.out) (K6.sub (List.Sublist.cons_cons _ (List.Sublist.cons _ (List.Sublist.cons_cons _ (List.Sublist.cons_cons _ (List.nil_sublist _))))))⟩, fun h => absurd (by rw [HE.out]) h⟩
    · have HE := hide (loadE_len h0 hl)
      have hli : (((rows.length : Nat) : Int) != ((l.length : Nat) : Int)) = true := bne_iff_ne.2 (by omega)
      clear h0 hl
      go_enter Tryz.func69, Tryz.ntmps69
      go_upto_region 1 with (have zz := tok1; clear zz tok1; refine wpList_alS (Sep.refl No w) rfl 82 rfl [.slice none 0 0, .slice none 0 0] (by kernel_rfl) ?_; intro w1 hz1 K1; clear hz1)
      obtain ⟨g4, G4⟩ : ∃ g, w.heap.size = g := ⟨_, rfl⟩
      rw [G4] at K1 ⊢
      have HG4 := hide G4
      have KK := hide K1
      clear K1 G4
      go_wp2_with fail
      (with_reducible refine (HN.out _ KK.out.toExt).mono ?_)
      rintro e w2 ⟨h2, _⟩
      obtain ⟨A', c', gB, rfl, hS2⟩ := h2 HLIM.out
      have K2 := KK.out.joinW hS2
      clear KK h2 hS2 HN
      go_wp2_with (first
        | (have zz := tok2; clear zz tok2; refine wpList_alS K2 rfl 82 rfl [.slice none 0 0, .slice none 0 0] (by kernel_rfl) ?_; intro w3 hz3 K3; clear hz3)
        | (have zz := tok3; clear zz tok3; refine wpList_stS [] K3 rfl 82 (.tmp 7) (.tmp 15) rfl rfl (cs := [.slice A' l.length c', .slice (some ⟨gB, 0, none⟩) l.length l.length]) rfl (by kernel_rfl) rfl (refs_one _ _ rfl rfl) ?_; intro w4 K4; dsimp only [List.nil_append] at K4)
        | (have zz := tok4; clear zz tok4; refine wpList_stS [_, _, _] K4 rfl 82 (.tmp 4) (.tmp 28) rfl rfl (cs := [.slice none 0 0, .slice none 0 0]) rfl (by kernel_rfl) rfl (refs_one _ _ rfl rfl) ?_; intro w5 K5; dsimp only [List.nil_append, List.cons_append] at K5))
      refine bodyPost_ret (v := .tuple #[rv none none 0 0 0, .int .i64 (-1), .int .i64 3]) (wresults_ctt rfl _ _ g4 82 [.slice none 0 0, .slice none 0 0] _ rfl (K5.blk (g := g4) (e := 82) (List.Mem.tail _ (List.Mem.tail _ (List.Mem.tail _ (List.Mem.head _))))) Tryz.underlying82 rfl (by kernel_rfl) rfl rfl) rfl (rldQ_bad HE.out (by decide) K5.toExt)
  · have HE := hide (loadE_bad (rows := rows) h0)
    obtain ⟨el, HEL⟩ : ∃ y, Hid (limE l = y) := ⟨_, hide rfl⟩
    have hel : el ≠ 0 := by rw [← HEL.out]; exact h0
    have HLIM := hide h0
    have e1 : (el != 0) = true := bne_iff_ne.2 hel
    have e2 : (el == 0) = false := beq_eq_false_iff_ne.2 hel
    rw [HEL.out] at HE
    clear h0
    go_enter Tryz.func69, Tryz.ntmps69
    go_upto_region 1 with (have zz := tok1; clear zz tok1; refine wpList_alS (Sep.refl No w) rfl 82 rfl [.slice none 0 0, .slice none 0 0] (by kernel_rfl) ?_; intro w1 hz1 K1; clear hz1)
    obtain ⟨g4, G4⟩ : ∃ g, w.heap.size = g := ⟨_, rfl⟩
    rw [G4] at K1 ⊢
    have HG4 := hide G4
    have KK := hide K1
    clear K1 G4
    go_wp2_with fail
    (with_reducible refine (HN.out _ KK.out.toExt).mono ?_)
    rintro e w2 ⟨_, h2⟩
    obtain ⟨rfl, hx2⟩ := h2 HLIM.out
    rw [HEL.out]
    have K2 := KK.out.ext hx2
    clear KK h2 hx2 HN
    go_wp2_with (first
      | (have zz := tok2; clear zz tok2; refine wpList_alS K2 rfl 82 rfl [.slice none 0 0, .slice none 0 0] (by kernel_rfl) ?_; intro w3 hz3 K3; clear hz3)
      | (have zz := tok3; clear zz tok3; refine wpList_stS [] K3 rfl 82 (.tmp 7) (.tmp 15) rfl rfl (cs := [.slice none 0 0, .slice none 0 0]) rfl (by kernel_rfl) rfl (refs_one _ _ rfl rfl) ?_; intro w4 K4; dsimp only [List.nil_append] at K4)
      | (have zz := tok4; clear zz tok4; refine wpList_stS [_] K4 rfl 82 (.tmp 4) (.tmp 28) rfl rfl (cs := [.slice none 0 0, .slice none 0 0]) rfl (by kernel_rfl) rfl (refs_one _ _ rfl rfl) ?_; intro w5 K5; dsimp only [List.nil_append, List.cons_append] at K5))
    refine bodyPost_ret (v := .tuple #[rv none none 0 0 0, .int .i64 (-1), .int .i64 el]) (wresults_ctt rfl _ _ g4 82 [.slice none 0 0, .slice none 0 0] _ rfl (K5.blk (g := g4) (e := 82) (List.Mem.tail _ (List.Mem.head _))) Tryz.underlying82 rfl (by kernel_rfl) rfl rfl) rfl (rldQ_bad HE.out hel K5.toExt)
end Go.Proofs.YtdmaephmkfmehaaGreatDoor
