/- Promote: the arguments of the laws. -/
import Derived.Test.YtdmaephmkfmehaaGreatDoorP0
import Derived.Test.YtdmaephmkfmehaaGreatDoorGa
import Derived.Test.YtdmaephmkfmehaaGreatDoorGf
namespace Go.Pm
open Go.Wl Go.Ad Go.Proofs.YtdmaephmkfmehaaGreatDoor
theorem loadG_zero : ∀ (t : List (Int × List Int)) (i : Nat), (loadG i t).2 = 0 → ∀ p ∈ t, (p.2.length : Int) ≤ p.1 ∧ p.2.Nodup
  | [], _, _, p, hp => by cases hp
  | (n, q) :: t, i, h, p, hp => by
    unfold loadG at h
    split at h
    · cases h
    · rename_i h1
      split at h
      · cases h
      · rename_i h2
        rcases List.mem_cons.1 hp with rfl | hp
        · exact ⟨by show (q.length : Int) ≤ n; omega, by simpa using h2⟩
        · exact loadG_zero t (i + 1) h p hp
theorem loadS_ok {l : List Int} {rows : List (List Int)} (h : (loadE l rows).2 = 0) (hr : ∀ r ∈ rows, ∀ x ∈ r, 0 ≤ x ∧ x < 4294967296) : Ok (loadS l rows) := by
  have h1 : limE l = 0 := by
    by_cases e : limE l = 0
    · exact e
    · rw [loadE_bad e] at h; exact absurd h e
  have h2 : rows.length = l.length := by
    by_cases e : rows.length = l.length
    · exact e
    · rw [loadE_len h1 e] at h; cases h
  rw [loadE_go h1 h2, List.drop_zero] at h
  have hz := limE_zero h1
  refine ⟨by unfold loadS; rw [List.length_map, List.length_zip]; have := hz.1; omega, by unfold loadS; rw [List.length_map, List.length_zip]; have := hz.2.1; omega, fun p hp => ?_⟩
  unfold loadS at hp
  obtain ⟨q, hq, rfl⟩ := List.mem_map.1 hp
  have h3 := loadG_zero _ _ h q hq
  have h4 := List.of_mem_zip hq
  have h5 := hz.2.2 q.1 h4.1
  exact ⟨by show q.1.toNat ≤ 64; omega, by show q.2.length ≤ q.1.toNat; omega, hr q.2 h4.2, h3.2⟩
end Go.Pm
namespace Go.Proofs.YtdmaephmkfmehaaGreatDoor
open Go.RowKit Go.Gr Go.Hp Go.Ad Go.Wl Go.Pm
set_option linter.unusedVariables false
set_option linter.unusedSimpArgs false
theorem wf_lim {x : Int} (h : (Lit.int .i64 x).wf = true) : -9223372036854775808 ≤ x ∧ x ≤ 9223372036854775807 := by
  simp [Lit.wf, IntKind.min, IntKind.max, IntKind.signed, IntKind.bits] at h; omega
theorem wf_w' {x : Int} (h : (Lit.int .u32 x).wf = true) : 0 ≤ x ∧ x < 4294967296 := by
  simp [Lit.wf, IntKind.min, IntKind.max, IntKind.signed, IntKind.bits] at h; omega
theorem pints_arg {w : World} {v : Value} (h : LfOk Tryz.prog w (.slice 3) v) : ∃ A l c, v = .slice A l.length c ∧ Rd w A (i64s l) ∧ (∀ x ∈ l, (Lit.int .i64 x).wf = true) ∧ l.length ≤ c ∧ c ≤ maxLen := by
  obtain ⟨A, l, c, rfl, h1, h2, h3, h4⟩ := slice_ints Tryz.underlying3 (by kernel_rfl) h
  exact ⟨A, l, c, rfl, h1, h2, h3, h4⟩
theorem secs_arg {w : World} {v : Value} (h : LfOk Tryz.prog w (.slice 100) v) : ∃ A l c, v = .slice A l.length c ∧ Secs w A l ∧ (∀ s ∈ l, ScW s) ∧ l.length ≤ c ∧ c ≤ maxLen := by
  obtain ⟨A, rows, c, rfl, hr, hL, hc, hm⟩ := slice_lvs (L := [.str, .slice 3, .int .i64]) 8 (by kernel_rfl) (by kernel_rfl) h
  obtain ⟨l, hl, hp⟩ := exists_list (p := fun (s : Sc) r => ∃ R d, r = scC s R d ∧ Rd w R (i64s s.rows) ∧ s.rows.length ≤ d ∧ ScW s) rows (fun r hr => by
    obtain ⟨x, U, rfl, hx, hU⟩ := (hL r hr).cons
    obtain ⟨y, U, rfl, hy, hU⟩ := hU.cons
    obtain ⟨z, U, rfl, hz, hU⟩ := hU.cons
    obtain rfl := Lvs.nil_ hU
    obtain ⟨nm, rfl, hnm⟩ := hx
    obtain ⟨n, rfl, _⟩ := hz
    obtain ⟨R, rw', d, rfl, h1, -, h2, h3⟩ := pints_arg hy
    exact ⟨⟨nm, rw', n⟩, R, d, rfl, h1, h2, ⟨hnm, by show rw'.length ≤ maxLen; omega⟩⟩)
  refine ⟨A, l, c, by rw [hl], fun i s hs => ?_, fun s hs => ?_, by omega, hm⟩
  · obtain ⟨hi, rfl⟩ := List.getElem?_eq_some_iff.1 hs
    obtain ⟨R, d, e, h1, h2, _⟩ := hp i hi (by omega)
    have hri : rows[i]? = some (scC l[i] R d) := by rw [List.getElem?_eq_getElem (by omega), e]
    obtain ⟨b, off, hA, h5⟩ := hr.at5 (fun r hr => by rw [(hL r hr).len]; decide) hri
    exact ⟨b, off, R, d, hA, h5, h1, h2⟩
  · obtain ⟨i, hi, rfl⟩ := List.getElem_of_mem hs
    obtain ⟨R, d, _, _, _, h3⟩ := hp i hi (by omega)
    exact h3
theorem agg_of {cs : Array Value} {l : List Value} (h : cs.toList = l) : Value.agg cs = .agg l.toArray := by rw [← h, Array.toArray_toList]
theorem rowsA {w : World} {v : Value} (h : LfOk Tryz.prog w (.slice 47) v) : ∃ A vs rows c, v = .slice A rows.length c ∧ (AsRows A vs rows).p w ∧ (∀ r ∈ rows, r.length ≤ maxLen ∧ ∀ x ∈ r, 0 ≤ x ∧ x < 4294967296) ∧ rows.length ≤ c ∧ c ≤ maxLen := by
  obtain ⟨A, xs, c, rfl, hr, hx, hc, hm⟩ := slice_lf (l := .slice 41) 8 (by kernel_rfl) (by kernel_rfl) h
  obtain ⟨rows, hl, hp⟩ := exists_list (p := fun r x => IsRow w x r ∧ r.length ≤ maxLen ∧ ∀ e ∈ r, 0 ≤ e ∧ e < 4294967296) xs (fun x hxs => by
    obtain ⟨A', l, c', rfl, h1, h2, h3, h4⟩ := slice_ints Tryz.underlying41 (by kernel_rfl) (hx x hxs)
    exact ⟨l, ⟨A', c', rfl, h3, h1⟩, by omega, fun e he => wf_w' (h2 e he)⟩)
  refine ⟨A, xs, rows, c, by rw [hl], ⟨hr, hl.symm, fun j v r hv hrr => ?_⟩, fun r hrr => ?_, by omega, hm⟩
  · obtain ⟨hj, rfl⟩ := List.getElem?_eq_some_iff.1 hv
    obtain ⟨hj', rfl⟩ := List.getElem?_eq_some_iff.1 hrr
    exact (hp j hj' hj).1
  · obtain ⟨i, hi, rfl⟩ := List.getElem_of_mem hrr
    exact (hp i hi (by omega)).2
/-- a venue that came in -/
theorem venue_arg {w : World} {v : Value} (h : ∃ cs, v = .agg cs ∧ Lvs Tryz.prog w [.int .i64, .int .i64, .int .i64, .slice 100] cs.toList) : ∃ (V : Vn) (A : Option Addr) (c : Nat), v = .agg #[.int .i64 V.sh, .int .i64 V.ttl, .int .i64 V.ses, .slice A V.secs.length c] ∧ Secs w A V.secs ∧ V.secs.length ≤ c ∧ VnW V := by
  obtain ⟨cs, rfl, h⟩ := h
  obtain ⟨_, _, e1, ⟨a, rfl, _⟩, g1⟩ := h.cons
  obtain ⟨_, _, rfl, ⟨b, rfl, _⟩, g2⟩ := g1.cons
  obtain ⟨_, _, rfl, ⟨c, rfl, _⟩, g3⟩ := g2.cons
  obtain ⟨_, _, rfl, h4, g4⟩ := g3.cons
  obtain rfl := Lvs.nil_ g4
  obtain ⟨A, l, cc, rfl, h1, h2, h3, h5⟩ := secs_arg h4
  exact ⟨⟨a, b, c, l⟩, A, cc, agg_of e1, h1, h3, ⟨by show l.length ≤ maxLen; omega, h2⟩⟩
/-- a house that came in -/
structure HouseIs (w : World) (v : Vn) (A : Option Addr) (c : Nat) (rows : List (List Int)) (B : Option Addr) (vs : List Value) (d : Nat) (now : Int) : Prop where
  secs : Secs w A v.secs
  cap : v.secs.length ≤ c
  vw : VnW v
  rws : (AsRows B vs rows).p w
  rcap : rows.length ≤ d
  many : rows.length ≤ maxLen
  row : ∀ r ∈ rows, r.length ≤ maxLen ∧ ∀ x ∈ r, 0 ≤ x ∧ x < 4294967296
  now : -9223372036854775808 ≤ now ∧ now ≤ 9223372036854775807
theorem HouseIs.ext {w y : World} {v : Vn} {A : Option Addr} {c : Nat} {rows : List (List Int)} {B : Option Addr} {vs : List Value} {d : Nat} {now : Int} (h : HouseIs w v A c rows B vs d now) (k : Ext w y) : HouseIs y v A c rows B vs d now :=
  ⟨h.secs.ext k, h.cap, h.vw, asRows_x h.rws k, h.rcap, h.many, h.row, h.now⟩
theorem house_arg {w : World} {v : Value} (h : ∃ cs, v = .agg cs ∧ Lvs Tryz.prog w [.int .i64, .int .i64, .int .i64, .slice 100, .slice 47, .int .i64] cs.toList) : ∃ (V : Vn) (A : Option Addr) (c : Nat) (rows : List (List Int)) (B : Option Addr) (vs : List Value) (d : Nat) (now : Int), v = .agg #[.int .i64 V.sh, .int .i64 V.ttl, .int .i64 V.ses, .slice A V.secs.length c, .slice B rows.length d, .int .i64 now] ∧ HouseIs w V A c rows B vs d now := by
  obtain ⟨cs, rfl, h⟩ := h
  obtain ⟨_, _, e1, ⟨a, rfl, _⟩, g1⟩ := h.cons
  obtain ⟨_, _, rfl, ⟨b, rfl, _⟩, g2⟩ := g1.cons
  obtain ⟨_, _, rfl, ⟨c, rfl, _⟩, g3⟩ := g2.cons
  obtain ⟨_, _, rfl, h4, g4⟩ := g3.cons
  obtain ⟨_, _, rfl, h5, g5⟩ := g4.cons
  obtain ⟨_, _, rfl, ⟨n, rfl, hn⟩, g6⟩ := g5.cons
  obtain rfl := Lvs.nil_ g6
  obtain ⟨A, l, cc, rfl, h1, h2, h3, h6⟩ := secs_arg h4
  obtain ⟨B, vs, rows, d, rfl, k1, k2, k3, k4⟩ := rowsA h5
  exact ⟨⟨a, b, c, l⟩, A, cc, rows, B, vs, d, n, agg_of e1, ⟨h1, h3, ⟨by show l.length ≤ maxLen; omega, h2⟩, k1, k3, by omega, k2, wf_lim hn⟩⟩
/-- holds that came in -/
theorem held_arg {w : World} {v : Value} (h : LfOk Tryz.prog w (.slice 39) v) : ∃ A l c, v = .slice A l.length c ∧ RdM w A 2 (hoV l) ∧ (∀ x ∈ l, x.ok) ∧ l.length ≤ c ∧ c ≤ maxLen := by
  obtain ⟨A, rows, c, rfl, hr, hL, hc, hm⟩ := slice_lvs (L := [.int .i64, .int .i64]) 8 (by kernel_rfl) (by kernel_rfl) h
  obtain ⟨l, hl, hp⟩ := exists_list (p := fun (x : Ho) r => r = hoC x ∧ x.ok) rows (fun r hr => by
    obtain ⟨_, _, rfl, ⟨a, rfl, ha⟩, g1⟩ := (hL r hr).cons
    obtain ⟨_, _, rfl, ⟨b, rfl, hb⟩, g2⟩ := g1.cons
    obtain rfl := Lvs.nil_ g2
    have h1 := wf_lim ha
    have h2 := wf_lim hb
    exact ⟨⟨a, b⟩, rfl, ⟨h1.1, h1.2, h2.1, h2.2⟩⟩)
  have e : hoV l = rows := by
    apply List.ext_getElem (by simp [hoV, hl])
    intro i h1 h2
    simp only [hoV, List.getElem_map]
    exact (hp i (by simpa [hoV] using h1) h2).1.symm
  refine ⟨A, l, c, by rw [hl], by rw [e]; exact hr, fun x hx => ?_, by omega, hm⟩
  obtain ⟨i, hi, rfl⟩ := List.getElem_of_mem hx
  exact (hp i hi (by omega)).2
/-- steps that came in -/
theorem steps_arg {w : World} {v : Value} (h : LfOk Tryz.prog w (.slice 49) v) : ∃ A l c, v = .slice A l.length c ∧ RdM w A 3 (spV l) ∧ (∀ x ∈ l, 0 ≤ x.own ∧ x.own < 4294967296) ∧ l.length ≤ c ∧ c ≤ maxLen := by
  obtain ⟨A, rows, c, rfl, hr, hL, hc, hm⟩ := slice_lvs (L := [.int .i64, .int .i64, .int .u32]) 8 (by kernel_rfl) (by kernel_rfl) h
  obtain ⟨l, hl, hp⟩ := exists_list (p := fun (x : Sp) r => r = spC x ∧ 0 ≤ x.own ∧ x.own < 4294967296) rows (fun r hr => by
    obtain ⟨_, _, rfl, ⟨a, rfl, ha⟩, g1⟩ := (hL r hr).cons
    obtain ⟨_, _, rfl, ⟨b, rfl, hb⟩, g2⟩ := g1.cons
    obtain ⟨_, _, rfl, ⟨c, rfl, hc⟩, g3⟩ := g2.cons
    obtain rfl := Lvs.nil_ g3
    exact ⟨⟨a, b, c⟩, rfl, wf_w' hc⟩)
  have e : spV l = rows := by
    apply List.ext_getElem (by simp [spV, hl])
    intro i h1 h2
    simp only [spV, List.getElem_map]
    exact (hp i (by simpa [spV] using h1) h2).1.symm
  refine ⟨A, l, c, by rw [hl], by rw [e]; exact hr, fun x hx => ?_, by omega, hm⟩
  obtain ⟨i, hi, rfl⟩ := List.getElem_of_mem hx
  exact (hp i hi (by omega)).2
end Go.Proofs.YtdmaephmkfmehaaGreatDoor
