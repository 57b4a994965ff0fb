/- Tickets: what the law of Newest asks: the kinds that come in, the blobs that it lays, and that each seat has one blob. -/
import Derived.Test.YtamlngdjbmndlaaDoorGe
import Derived.Test.YtamlngdjbmndlaaDoorGa
namespace Go.Proofs.YtamlngdjbmndlaaDoor
open Go.RowKit Go.Gr
set_option linter.unusedVariables false
set_option linter.unusedSimpArgs false
/-- a kind: a ticket, what is done with its blob, and where -/
structure Ki where
  s : Int
  o : Int
  n : Int
  e : Int
  wh : Int
  pos : Int
structure Ki.ok (x : Ki) : Prop where
  t : TiB x.s x.o x.n x.e
  w : 0 ≤ x.wh ∧ x.wh < 256
  a : 0 ≤ x.pos ∧ x.pos < 256
def kic (x : Ki) : List Value := [.int .u32 x.s, .int .u32 x.o, .int .u64 x.n, .int .u64 x.e, .int .u8 x.wh, .int .u8 x.pos]
theorem kindL {w : World} {cs : List Value} (h0 : Lvs Tryd.prog w [.int .u32, .int .u32, .int .u64, .int .u64, .int .u8, .int .u8] cs) : ∃ x : Ki, cs = kic x ∧ x.ok := by
  obtain ⟨_, _, rfl, ⟨a, rfl, ha⟩, h1⟩ := h0.cons
  obtain ⟨_, _, rfl, ⟨b, rfl, hb⟩, h2⟩ := h1.cons
  obtain ⟨_, _, rfl, ⟨c, rfl, hc⟩, h3⟩ := h2.cons
  obtain ⟨_, _, rfl, ⟨d, rfl, hd⟩, h4⟩ := h3.cons
  obtain ⟨_, _, rfl, ⟨e, rfl, he⟩, h5⟩ := h4.cons
  obtain ⟨_, _, rfl, ⟨f, rfl, hf⟩, h6⟩ := h5.cons
  obtain rfl := h6.nil_
  exact ⟨⟨a, b, c, d, e, f⟩, rfl, ⟨⟨(Go.Gr.wf_u32 ha).1, (Go.Gr.wf_u32 ha).2, (Go.Gr.wf_u32 hb).1, (Go.Gr.wf_u32 hb).2, (u64_of hc).1, (u64_of hc).2, (u64_of hd).1, (u64_of hd).2⟩, wf_u8 he, wf_u8 hf⟩⟩
theorem exists_listK {α β : Type} {p : α → β → Prop} : ∀ (rows : List β), (∀ r ∈ rows, ∃ x, p x r) → ∃ l : List α, l.length = rows.length ∧ ∀ i (h1 : i < l.length) (h2 : i < rows.length), p l[i] rows[i]
  | [], _ => ⟨[], rfl, fun i h1 => by simp at h1⟩
  | r :: rows, h => by
    obtain ⟨x, hx⟩ := h r (by simp)
    obtain ⟨l, hl, hp⟩ := exists_listK rows (fun r hr => h r (by simp [hr]))
    refine ⟨x :: l, by simp [hl], fun i h1 h2 => ?_⟩
    cases i with
    | zero => exact hx
    | succ i => exact hp i (by simpa using h1) (by simpa using h2)
theorem kindsA {w : World} {v : Value} (h : LfOk Tryd.prog w (.slice 47) v) : ∃ (A : Option Addr) (l : List Ki) (c : Nat), v = .slice A l.length c ∧ RdM w A 6 (l.map kic) ∧ (∀ x ∈ l, x.ok) ∧ l.length ≤ c ∧ c ≤ maxLen := by
  obtain ⟨A, rows, c, rfl, hr, hL, hc, hm⟩ := slice_lvs (L := [.int .u32, .int .u32, .int .u64, .int .u64, .int .u8, .int .u8]) 8 (by kernel_rfl) (by kernel_rfl) h
  obtain ⟨l, hl, hp⟩ := exists_listK (p := fun x r => r = kic x ∧ x.ok) rows (fun r hr => kindL (hL r hr))
  have e : l.map kic = rows := by
    apply List.ext_getElem (by simp [hl])
    intro i h1 h2
    rw [List.getElem_map]
    exact ((hp i (by simpa using h1) h2).1).symm
  refine ⟨A, l, c, by rw [hl], by rw [e]; exact hr, fun x hx => ?_, by omega, hm⟩
  obtain ⟨i, hi, rfl⟩ := List.getElem_of_mem hx
  exact (hp i hi (by omega)).2
theorem kind_at {w : World} {A : Option Addr} {l : List Ki} (h : RdM w A 6 (l.map kic)) {k : Nat} {x : Ki} (hx : l[k]? = some x) : ∃ b off, A = some ⟨b, off, none⟩ ∧ Go.Gr.At5 w b (off + k * 6) (tkc x.s x.o x.n x.e) ∧ w.cell? ⟨b, off + k * 6 + 4, none⟩ = some (.int .u8 x.wh) ∧ w.cell? ⟨b, off + k * 6 + 5, none⟩ = some (.int .u8 x.pos) ∧ b < w.heap.size := by
  obtain ⟨b, off, e, hc⟩ := h.at_ (fun r hr => by
    obtain ⟨x, _, rfl⟩ := List.mem_map.1 hr
    exact Nat.succ_pos _) (i := k) (r := kic x) (by simp [hx])
  have h0 := hc 0 _ rfl
  refine ⟨b, off, e, fun j u hu => hc j u ?_, hc 4 _ rfl, hc 5 _ rfl, cell_lt h0⟩
  match j with
  | 0 => exact hu
  | 1 => exact hu
  | 2 => exact hu
  | 3 => exact hu
  | (n + 4) => simp at hu
/-- the memory that blobs lie in, read only -/
def blobsA : List (Option Addr × List Int) → As
  | [] => As.rd none []
  | p :: r => As.and (As.rd p.1 (byt p.2)) (blobsA r)
theorem blobsA_get {w : World} : ∀ {ps : List (Option Addr × List Int)}, (blobsA ps).p w → ∀ {A b}, (A, b) ∈ ps → Rd w A (byt b)
  | p :: r, h, A, b, hm => by
    rcases List.mem_cons.1 hm with rfl | hm
    · exact h.1
    · exact blobsA_get h.2 hm
theorem sep_blob {G : Nat → Prop} {w0 w : World} {L : List As} {A : Option Addr} {b : List Int} {ps : List (Option Addr × List Int)} (h : Sep G w0 w (As.rd A (byt b) :: blobsA ps :: L)) : Sep G w0 w (blobsA ((A, b) :: ps) :: L) :=
  h.merge (C := blobsA ((A, b) :: ps)) (fun h1 h2 => ⟨h1, h2⟩) (fun _ h => h)
/-- these cells are the slices of these blobs -/
def RelB (vs : List Value) (bs : List (List Int)) (ps : List (Option Addr × List Int)) : Prop :=
  bs.length = vs.length ∧ ∀ (i : Nat) (b : List Int), bs[i]? = some b → isB b ∧ b.length ≤ 56 ∧ ∃ Bi ci, vs[i]? = some (Value.slice Bi b.length ci) ∧ b.length ≤ ci ∧ (b = [] ∨ ∃ b', b = b'.take b.length ∧ (Bi, b') ∈ ps)
theorem relB_nil : RelB [] [] [] := ⟨rfl, fun i b h => by cases h⟩
theorem relB_many (n : Nat) : RelB (List.replicate n (Value.slice none 0 0)) (List.replicate n []) [] := ⟨by simp, fun i b h => by
  rw [List.getElem?_replicate] at h
  split at h
  · rename_i hi
    cases h
    exact ⟨(by intro x hx; cases hx), by decide, none, 0, by rw [List.getElem?_replicate, if_pos hi]; rfl, Nat.le_refl _, .inl rfl⟩
  · cases h⟩
theorem relB_push {vs : List Value} {bs : List (List Int)} {ps : List (Option Addr × List Int)} (h : RelB vs bs ps) {A : Option Addr} {b : List Int} {m c : Nat} (hb : isB b) (hl : b.length ≤ 56) (hm : m ≤ b.length) (hc : m ≤ c) :
    RelB (vs ++ [Value.slice A m c]) (bs ++ [b.take m]) ((A, b) :: ps) := ⟨by simp [h.1], fun i b' hi => by
  have hlm : (b.take m).length = m := by rw [List.length_take]; omega
  rcases Nat.lt_or_ge i bs.length with hlt | hge
  · rw [List.getElem?_append_left hlt] at hi
    obtain ⟨h1, h2, Bi, ci, h3, h4, h5⟩ := h.2 i b' hi
    refine ⟨h1, h2, Bi, ci, ?_, h4, ?_⟩
    · rw [List.getElem?_append_left (by rw [← h.1]; exact hlt), h3]
    · rcases h5 with h5 | ⟨b'', h5, h6⟩
      · exact .inl h5
      · exact .inr ⟨b'', h5, List.mem_cons_of_mem _ h6⟩
  · rw [List.getElem?_append_right hge] at hi
    have h0 : i - bs.length = 0 := by
      rcases Nat.eq_zero_or_pos (i - bs.length) with h | h
      · exact h
      · rw [List.getElem?_eq_none (by simp; omega)] at hi; cases hi
    rw [h0] at hi
    cases hi
    refine ⟨isB_take hb m, by rw [hlm]; omega, A, c, ?_, by rw [hlm]; exact hc, .inr ⟨b, by rw [hlm], List.mem_cons_self ..⟩⟩
    rw [List.getElem?_append_right (by rw [← h.1]; exact hge), ← h.1, h0, hlm]
    rfl⟩
/-- what Newest asks of the slice of blobs -/
theorem blo_of {w : World} {B : Option Addr} {vs : List Value} {bs : List (List Int)} {ps : List (Option Addr × List Int)} (hr : Rd w B vs) (hp : (blobsA ps).p w) (h : RelB vs bs ps) : Blo w B bs := fun i b hb => by
  obtain ⟨h1, h2, Bi, ci, h3, h4, h5⟩ := h.2 i b hb
  have hlt : 0 < vs.length := by
    rcases Nat.eq_zero_or_pos vs.length with h | h
    · rw [List.length_eq_zero_iff.1 h] at h3; cases h3
    · exact h
  obtain ⟨g, off, e, hat⟩ := rd_spot hr hlt
  refine ⟨g, off, Bi, ci, e, hat i _ h3, h4, ?_, h1, by omega⟩
  rcases h5 with h5 | ⟨b', h5, h6⟩
  · rw [h5]; exact fun j u hu => by cases hu
  · rw [h5, ← byt_take]; exact Rd.take_ (blobsA_get hp h6) _
/-- a byte is changed -/
theorem isB_set {l : List Int} (h : isB l) (i : Nat) {y : Int} (hy : 0 ≤ y ∧ y < 256) : isB (l.set i y) := fun x hx => by
  rcases List.mem_or_eq_of_mem_set hx with hx | rfl
  · exact h x hx
  · exact hy
theorem u8_range (x : Int) : 0 ≤ IntKind.u8.wrap x ∧ IntKind.u8.wrap x < 256 := by
  have : IntKind.u8.wrap x = x % 256 := by simp [IntKind.wrap, IntKind.signed, IntKind.bits]
  rw [this]
  omega
theorem mod4 {x : Int} (h : 0 ≤ x ∧ x < 256) : ∃ m : Int, x.tmod 4 = m ∧ (m = 0 ∨ m = 1 ∨ m = 2 ∨ m = 3) := ⟨_, rfl, by rw [Int.tmod_eq_emod_of_nonneg h.1]; omega⟩
theorem issT_facts (k : List Int) (s o n e : Int) : isB (issTB k s o n e) ∧ ((issTB k s o n e).length = 0 ∨ (issTB k s o n e).length = 56) := by
  unfold issTB
  split
  · split
    · exact ⟨bloB_isB (recT_isB _ _ _ _), .inr (bloB_len (recT_len _ _ _ _))⟩
    · exact ⟨(by intro x hx; cases hx), .inl rfl⟩
  · exact ⟨(by intro x hx; cases hx), .inl rfl⟩
/-- of two of the newest the seats differ -/
theorem newL_differ {l : List (Option Tk)} {i k j j' : Nat} (hi : (newL l)[i]? = some j) (hk : (newL l)[k]? = some j') (h : k < i) : ∃ t u, l[j]? = some (some t) ∧ l[j']? = some (some u) ∧ t.1 ≠ u.1 := by
  have hs := newL_sorted l
  have hlt : j' < j := by
    have hil : i < (newL l).length := by
      rcases Nat.lt_or_ge i (newL l).length with h | h
      · exact h
      · rw [List.getElem?_eq_none h] at hi; cases hi
    have := List.pairwise_iff_getElem.1 hs k i (by omega) hil h
    rw [List.getElem?_eq_getElem hil, Option.some.injEq] at hi
    rw [List.getElem?_eq_getElem (by omega), Option.some.injEq] at hk
    rw [hi, hk] at this
    exact this
  obtain ⟨t, h1, h2⟩ := newL_mem.1 (List.mem_of_getElem? hi)
  obtain ⟨u, h3, h4⟩ := newL_mem.1 (List.mem_of_getElem? hk)
  refine ⟨t, u, h1, h3, fun e => ?_⟩
  have a := h2 j' u h3 e.symm
  have b := h4 j t h1 e
  have hc := cmpT_cases (t := t) (u := u) e
  have hd := cmpT_cases (t := u) (u := t) e.symm
  unfold Beats at a b
  rcases a with a | ⟨a, a'⟩
  · rcases b with b | ⟨b, b'⟩
    · rcases hc with ⟨x, y⟩ | ⟨x, y⟩ | ⟨x, y⟩ <;> rcases hd with ⟨x', y'⟩ | ⟨x', y'⟩ | ⟨x', y'⟩ <;> simp only [later, alike] at x x' <;> omega
    · rcases hc with ⟨x, y⟩ | ⟨x, y⟩ | ⟨x, y⟩ <;> rcases hd with ⟨x', y'⟩ | ⟨x', y'⟩ | ⟨x', y'⟩ <;> simp only [later, alike] at x x' <;> omega
  · omega
theorem newL_lt {l : List (Option Tk)} {i j : Nat} (hi : (newL l)[i]? = some j) : j < l.length := by
  obtain ⟨t, h1, _⟩ := newL_mem.1 (List.mem_of_getElem? hi)
  rcases Nat.lt_or_ge j l.length with h | h
  · exact h
  · rw [List.getElem?_eq_none h] at h1; cases h1
/-- of two numbers that Newest returned: the blobs are opened, and their seats differ -/
theorem newV_differ {key : List Int} {bs : List (List Int)} {i k : Nat} {x y : Int} (hi : (newV key bs)[i]? = some x) (hk : (newV key bs)[k]? = some y) (h : k < i) :
    ∃ (j j' : Nat) (b b' : List Int), x = (j : Int) ∧ y = (j' : Int) ∧ bs[j]? = some b ∧ bs[j']? = some b' ∧ (opTV key b).1 ≠ (opTV key b').1 := by
  unfold newV at hi hk
  split at hi
  · rename_i he
    rw [if_pos he] at hk
    rw [List.getElem?_map] at hi hk
    obtain ⟨j, hj, rfl⟩ := Option.map_eq_some_iff.1 hi
    obtain ⟨j', hj', rfl⟩ := Option.map_eq_some_iff.1 hk
    obtain ⟨t, u, h1, h2, h3⟩ := newL_differ hj hj' h
    have hl := newL_lt hj
    have hl' := newL_lt hj'
    rw [opns_len] at hl hl'
    refine ⟨j, j', bs[j], bs[j'], rfl, rfl, List.getElem?_eq_getElem hl, List.getElem?_eq_getElem hl', ?_⟩
    have o1 := opns_get (key := key) (List.getElem?_eq_getElem hl)
    have o2 := opns_get (key := key) (List.getElem?_eq_getElem hl')
    rw [h1, Option.some.injEq] at o1
    rw [h2, Option.some.injEq] at o2
    have e1 : opTV key bs[j] = t := by
      have := o1.symm
      unfold opn at this
      split at this
      · exact Option.some.inj this
      · cases this
    have e2 : opTV key bs[j'] = u := by
      have := o2.symm
      unfold opn at this
      split at this
      · exact Option.some.inj this
      · cases this
    rw [e1, e2]
    exact h3
  · cases hi
theorem newV_len (key : List Int) (bs : List (List Int)) : (newV key bs).length ≤ bs.length := by
  unfold newV
  split
  · rw [List.length_map]
    unfold newL
    refine Nat.le_trans (List.length_filter_le _ _) ?_
    rw [List.length_range, opns_len]
    exact Nat.le_refl _
  · exact Nat.zero_le _
theorem infoBB : (Tryd.prog.info? 26).map (fun i => (i.zero, i.size, i.bytes)) = some (some (.slice none 0 0), 1, 24) := by kernel_rfl
end Go.Proofs.YtamlngdjbmndlaaDoor
