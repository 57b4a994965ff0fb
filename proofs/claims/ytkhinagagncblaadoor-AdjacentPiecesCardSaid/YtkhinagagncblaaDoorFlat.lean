/- General lemmas: an argument of whatever flat type, opened cell by cell. No conditions but those that each theorem states. -/
import Derived.WalkKit
import Derived.ProofKit
import Derived.OpenShut
namespace Go.Gr
open Go.RowKit
set_option linter.unusedVariables false

/-- what one cell of an argument is -/
inductive Lf where
  | int (k : IntKind)
  | bool
  | str
  | slice (e : TypeId)

/-- these cells can be read as data of this type -/
def Rdt (P : Program) (w : World) (t : TypeId) (cs : List Value) : Prop :=
  ∃ (H : Type) (enc : TypeId × Value → H) (base : Nat) (spare : Nat → Bool) (held : Bool) (fuel : Nat) (x : DataW H × List MemPlace), DataW.trod enc P w base spare held fuel t cs = some x

theorem add_add' (a : Addr) (i j : Nat) : (a.add i).add j = a.add (i + j) := by
  unfold Addr.add
  by_cases hi : i = 0 <;> by_cases hj : j = 0 <;> simp [hi, hj, Nat.add_assoc]
def LfOk (P : Program) (w : World) : Lf → Value → Prop
  | .int k, v => ∃ n, v = .int k n ∧ (Lit.int k n).wf = true
  | .bool, v => ∃ b, v = .bool b
  | .str, v => ∃ s, v = .string s ∧ s.size ≤ maxLen
  | .slice e, v => v = .slice none 0 0 ∨ ∃ (a : Addr) (len cap : Nat), v = .slice (some a) len cap ∧ len ≤ cap ∧ cap ≤ maxLen ∧
      ∀ i, i < len → ∃ cs, cs.length = P.cellsOf e ∧ Rdt P w e cs ∧ ∀ j, j < P.cellsOf e → w.cell? (a.add (i * P.cellsOf e + j)) = cs[j]?

def Lvs (P : Program) (w : World) : List Lf → List Value → Prop
  | [], [] => True
  | l :: L, v :: V => LfOk P w l v ∧ Lvs P w L V
  | _, _ => False

def flatFields (f : TypeId → Option (List Lf)) (cells : TypeId → Nat) : List Field → Nat → Option (List Lf)
  | [], _ => some []
  | x :: r, off =>
    match f x.type with
    | some L => if x.offset = off ∧ cells x.type = L.length then (flatFields f cells r (off + L.length)).map (L ++ ·) else none
    | none => none
def flatArr (L : List Lf) : Nat → List Lf
  | 0 => []
  | n + 1 => L ++ flatArr L n
def flat (P : Program) : Nat → TypeId → Option (List Lf)
  | 0, _ => none
  | n + 1, t =>
    match P.underlying t with
    | some .bool => some [.bool]
    | some (.int k) => some [.int k]
    | some .string => some [.str]
    | some (.slice e) => some [.slice e]
    | some (.struct fs) =>
      match flatFields (flat P n) P.cellsOf fs.toList 0 with
      | some L => if P.cellsOf t = L.length then some L else none
      | none => none
    | some (.array m e) =>
      match flat P n e with
      | some L => if P.cellsOf e = L.length ∧ P.cellsOf t = (flatArr L m).length then some (flatArr L m) else none
      | none => none
    | _ => none

section
variable {P : Program} {w : World}
theorem Lvs.len : ∀ {L : List Lf} {V : List Value}, Lvs P w L V → V.length = L.length
  | [], [], _ => rfl
  | [], _ :: _, h => h.elim
  | _ :: _, [], h => h.elim
  | _ :: L, _ :: V, h => by simp [h.2.len]
theorem Lvs.append : ∀ {L M : List Lf} {V U : List Value}, Lvs P w L V → Lvs P w M U → Lvs P w (L ++ M) (V ++ U)
  | [], _, [], _, _, h => h
  | [], _, _ :: _, _, h, _ => h.elim
  | _ :: _, _, [], _, h, _ => h.elim
  | _ :: _, _, _ :: _, _, h, k => ⟨h.1, h.2.append k⟩
theorem fields_ok {f : TypeId → Option (List Lf)} {cs : List Value} :
    ∀ (fs : List Field) (off : Nat) (L : List Lf), flatFields f P.cellsOf fs off = some L →
      (∀ x ∈ fs, ∀ M, f x.type = some M → Lvs P w M ((cs.drop x.offset).take (P.cellsOf x.type))) → off + L.length = cs.length → Lvs P w L (cs.drop off)
  | [], off, L, h, _, hl => by
    simp only [flatFields, Option.some.injEq] at h
    subst h
    rw [List.drop_of_length_le (by simp at hl; omega)]
    trivial
  | x :: r, off, L, h, hx, hl => by
    unfold flatFields at h
    split at h
    · rename_i M hM
      split at h
      · rename_i hc
        obtain ⟨h1, h2⟩ := hc
        cases hr : flatFields f P.cellsOf r (off + M.length) with
        | none => rw [hr] at h; cases h
        | some R =>
          rw [hr] at h
          simp only [Option.map_some, Option.some.injEq] at h
          subst h
          have ih := fields_ok r (off + M.length) R hr (fun y hy => hx y (List.mem_cons_of_mem _ hy)) (by rw [← hl, List.length_append]; omega)
          have h3 := hx x (List.mem_cons_self) M hM
          rw [h1, h2] at h3
          have := h3.append ih
          rwa [← List.drop_drop, List.take_append_drop] at this
      · cases h
    · cases h
theorem arr_ok {L : List Lf} {cs : List Value} : ∀ (n k : Nat), (∀ i, k ≤ i → i < k + n → Lvs P w L ((cs.drop (i * L.length)).take L.length)) → k * L.length + (flatArr L n).length = cs.length →
    Lvs P w (flatArr L n) (cs.drop (k * L.length))
  | 0, k, _, hl => by
    rw [List.drop_of_length_le (by simp [flatArr] at hl; omega)]
    trivial
  | n + 1, k, h, hl => by
    have ih := arr_ok (L := L) (cs := cs) n (k + 1) (fun i h1 h2 => h i (by omega) (by omega)) (by rw [← hl, flatArr, List.length_append, Nat.add_mul]; omega)
    have h1 := h k (Nat.le_refl _) (by omega)
    have := h1.append ih
    rw [flatArr]
    rwa [Nat.add_mul, Nat.one_mul, ← List.drop_drop, List.take_append_drop] at this
theorem flat_ok : ∀ (n : Nat) (t : TypeId) (L : List Lf), flat P n t = some L → ∀ (cs : List Value), Rdt P w t cs → Lvs P w L cs
  | 0, _, _, h, _, _ => by cases h
  | n + 1, t, L, h, cs, hr => by
    obtain ⟨H, enc, base, spare, held, fuel, x, hx⟩ := hr
    unfold flat at h
    split at h
    · rename_i ht
      cases h
      obtain ⟨b, rfl, _⟩ := DataW.trod_bool ht hx
      exact ⟨⟨b, rfl⟩, trivial⟩
    · rename_i k ht
      cases h
      obtain ⟨m, rfl, _, hw⟩ := DataW.trod_int ht hx
      exact ⟨⟨m, rfl, hw⟩, trivial⟩
    · rename_i ht
      cases h
      obtain ⟨s, rfl, _, hs⟩ := DataW.trod_string ht hx
      exact ⟨⟨s, rfl, hs⟩, trivial⟩
    · rename_i e ht
      cases h
      rcases DataW.trod_slice ht hx with ⟨rfl, _⟩ | ⟨a, len, cap, elems, rest, m, _, rfl, _, _, hl, hm, hel, hi, _⟩
      · exact ⟨.inl rfl, trivial⟩
      · refine ⟨.inr ⟨a, len, cap, rfl, hl, hm, fun i him => ?_⟩, trivial⟩
        have h1 := hi i him
        have h2 : elems[i]? = some (elems[i]'(by omega)) := List.getElem?_eq_getElem (by omega)
        rw [h2] at h1
        obtain ⟨cs', h3, h4⟩ := Option.bind_eq_some_iff.1 h1
        obtain ⟨_, h5, h6⟩ := World.cells?_some h3
        exact ⟨cs', h5, ⟨H, enc, base, spare, held, m, _, h4⟩, fun j hj => by rw [← add_add']; exact h6 j hj⟩
    · rename_i fs ht
      split at h
      · rename_i M hM
        split at h
        · rename_i hc
          cases h
          obtain ⟨xs, m, _, _, hlen, hxl, hf⟩ := DataW.trod_struct ht hx
          have := fields_ok (P := P) (w := w) (cs := cs) fs.toList 0 _ hM (fun f hfm N hN => by
            obtain ⟨i, hi⟩ := List.getElem?_of_mem hfm
            have hi2 : fs[i]? = some f := by rw [← Array.getElem?_toList]; exact hi
            have h1 := hf i f hi2
            have hlt : i < fs.size := (Array.getElem?_eq_some_iff.1 hi2).1
            have h2 : xs[i]? = some (xs[i]'(by omega)) := List.getElem?_eq_getElem (by omega)
            rw [h2] at h1
            exact flat_ok n f.type N hN _ ⟨H, enc, base, spare, held, m, _, h1⟩) (by omega)
          simpa using this
        · cases h
      · cases h
    · rename_i m e ht
      split at h
      · rename_i M hM
        split at h
        · rename_i hc
          cases h
          obtain ⟨xs, m', _, _, hlen, hxl, hf⟩ := DataW.trod_array ht hx
          have := arr_ok (P := P) (w := w) (L := M) (cs := cs) m 0 (fun i _ hi => by
            have h1 := hf i (by omega)
            have h2 : xs[i]? = some (xs[i]'(by omega)) := List.getElem?_eq_getElem (by omega)
            rw [h2, hc.1] at h1
            exact flat_ok n e M hM _ ⟨H, enc, base, spare, held, m', _, h1⟩) (by omega)
          simpa using this
        · cases h
      · cases h
    · cases h

section
variable {H : Type} {enc : TypeId × Value → H} {base : Nat} {spare : Nat → Bool} {held : Bool} {r : Reach} {b0 : Nat} {t : TypeId} {v : Value} {d : DataW H} {ps : List MemPlace}
theorem reads_of (h : DataW.Trod enc P w base spare held t v d ps) : Rdt P w t v.cells.toList := by
  obtain ⟨fuel, hf⟩ := h
  exact ⟨H, enc, base, spare, held, fuel, _, hf⟩
theorem arg_int {k : IntKind} (ht : P.underlying t = some (.int k)) (hval : Value.okWide P w r b0 t v) (h : DataW.Trod enc P w base spare held t v d ps) :
    ∃ n, v = .int k n ∧ (Lit.int k n).wf = true := by
  obtain ⟨n, rfl⟩ := WideShapes.okWide_int ht hval
  have := flat_ok 1 t [.int k] (by simp [flat, ht]) _ (reads_of h)
  obtain ⟨⟨m, e, hw⟩, _⟩ := this
  cases e
  exact ⟨n, rfl, hw⟩
theorem arg_bool (ht : P.underlying t = some .bool) (hval : Value.okWide P w r b0 t v) : ∃ b, v = .bool b := WideShapes.okWide_bool ht hval
theorem arg_string (ht : P.underlying t = some .string) (hval : Value.okWide P w r b0 t v) (h : DataW.Trod enc P w base spare held t v d ps) : ∃ s, v = .string s ∧ s.size ≤ maxLen := by
  obtain ⟨n, rfl⟩ := WideShapes.okWide_string ht hval
  have := flat_ok 1 t [.str] (by simp [flat, ht]) _ (reads_of h)
  obtain ⟨⟨m, e, hw⟩, _⟩ := this
  cases e
  exact ⟨n, rfl, hw⟩
theorem arg_slice {e : TypeId} (ht : P.underlying t = some (.slice e)) (hval : Value.okWide P w r b0 t v) (h : DataW.Trod enc P w base spare held t v d ps) : LfOk P w (.slice e) v := by
  obtain ⟨a, len, cap, rfl⟩ := WideShapes.okWide_slice ht hval
  exact (flat_ok 1 t [.slice e] (by simp [flat, ht]) _ (reads_of h)).1
theorem arg_agg {fs : Array Field} {L : List Lf} {n : Nat} (ht : P.underlying t = some (.struct fs)) (hf : flat P n t = some L) (hval : Value.okWide P w r b0 t v) (h : DataW.Trod enc P w base spare held t v d ps) :
    ∃ cs, v = .agg cs ∧ Lvs P w L cs.toList := by
  obtain ⟨cs, rfl, _⟩ := WideShapes.okWide_struct ht hval
  exact ⟨cs, rfl, flat_ok n t L hf _ (reads_of h)⟩
theorem arg_arr {m : Nat} {e : TypeId} {L : List Lf} {n : Nat} (ht : P.underlying t = some (.array m e)) (hf : flat P n t = some L) (hval : Value.okWide P w r b0 t v) (h : DataW.Trod enc P w base spare held t v d ps) :
    ∃ cs, v = .agg cs ∧ Lvs P w L cs.toList := by
  have h2 := reads_of h
  simp only [Value.okWide, ht] at hval
  obtain ⟨cs, rfl, _⟩ := hval
  exact ⟨cs, rfl, flat_ok n t L hf _ h2⟩
end
/-- the parts of a struct or array, cell by cell -/
theorem Lvs.cons {l : Lf} {L : List Lf} {V : List Value} (h : Lvs P w (l :: L) V) : ∃ v U, V = v :: U ∧ LfOk P w l v ∧ Lvs P w L U := by
  cases V with
  | nil => exact h.elim
  | cons v U => exact ⟨v, U, rfl, h.1, h.2⟩
theorem Lvs.nil_ {V : List Value} (h : Lvs P w [] V) : V = [] := by
  cases V with
  | nil => rfl
  | cons v U => exact h.elim
theorem wf_i64 {n : Int} (h : (Lit.int .i64 n).wf = true) : -9223372036854775808 ≤ n ∧ n ≤ 9223372036854775807 := by
  simpa [Lit.wf, IntKind.min, IntKind.max, IntKind.signed, IntKind.bits] using h
theorem wf_i32 {n : Int} (h : (Lit.int .i32 n).wf = true) : -2147483648 ≤ n ∧ n ≤ 2147483647 := by
  simpa [Lit.wf, IntKind.min, IntKind.max, IntKind.signed, IntKind.bits] using h
theorem wf_u64 {n : Int} (h : (Lit.int .u64 n).wf = true) : 0 ≤ n ∧ n < 18446744073709551616 := by
  have : 0 ≤ n ∧ n ≤ 18446744073709551615 := by simpa [Lit.wf, IntKind.min, IntKind.max, IntKind.signed, IntKind.bits] using h
  omega
theorem wf_u32 {n : Int} (h : (Lit.int .u32 n).wf = true) : 0 ≤ n ∧ n < 4294967296 := by
  have : 0 ≤ n ∧ n ≤ 4294967295 := by simpa [Lit.wf, IntKind.min, IntKind.max, IntKind.signed, IntKind.bits] using h
  omega
theorem wf_u8 {n : Int} (h : (Lit.int .u8 n).wf = true) : 0 ≤ n ∧ n < 256 := by
  have : 0 ≤ n ∧ n ≤ 255 := by simpa [Lit.wf, IntKind.min, IntKind.max, IntKind.signed, IntKind.bits] using h
  omega
/-- a slice of integers that came in -/
theorem slice_ints {e : TypeId} {k : IntKind} {v : Value} (he : P.underlying e = some (.int k)) (hc : P.cellsOf e = 1) (h : LfOk P w (.slice e) v) :
    ∃ (A : Option Addr) (l : List Int) (c : Nat), v = .slice A l.length c ∧ (∀ j u, (l.map (Value.int k))[j]? = some u → ∃ ad, A = some ad ∧ w.cell? (ad.add j) = some u) ∧ (∀ x ∈ l, (Lit.int k x).wf = true) ∧ l.length ≤ c ∧ c ≤ maxLen := by
  rcases h with rfl | ⟨a, len, cap, rfl, hl, hm, hi⟩
  · exact ⟨none, [], 0, rfl, fun j u h => by simp at h, fun x h => (by cases h), Nat.le_refl _, Nat.zero_le _⟩
  · have key : ∀ i, i < len → ∃ n, w.cell? (a.add i) = some (.int k n) ∧ (Lit.int k n).wf = true := fun i hlt => by
      obtain ⟨cs, h1, h2, h3⟩ := hi i hlt
      rw [hc] at h1 h3
      obtain ⟨v, U, rfl, ⟨n, rfl, hw⟩, hU⟩ := (flat_ok 1 e [.int k] (by simp [flat, he]) cs h2).cons
      refine ⟨n, ?_, hw⟩
      have := h3 0 (by decide)
      simpa using this
    have hex : ∃ f : Nat → Int, ∀ i, i < len → w.cell? (a.add i) = some (.int k (f i)) ∧ (Lit.int k (f i)).wf = true :=
      ⟨fun i => if h : i < len then (key i h).choose else 0, fun i h => by simp only [dif_pos h]; exact (key i h).choose_spec⟩
    obtain ⟨f, hf⟩ := hex
    refine ⟨some a, (List.range len).map f, cap, by simp, fun j u hu => ?_, fun x hx => ?_, by simpa using hl, hm⟩
    · rw [List.map_map, List.getElem?_map] at hu
      rcases Nat.lt_or_ge j len with hj | hj
      · rw [List.getElem?_range hj] at hu
        simp only [Option.map_some, Function.comp, Option.some.injEq] at hu
        exact ⟨a, rfl, by rw [(hf j hj).1, hu]⟩
      · rw [List.getElem?_eq_none (by simpa using hj)] at hu; cases hu
    · obtain ⟨i, hi', rfl⟩ := List.mem_map.1 hx
      exact (hf i (by simpa using hi')).2
end
end Go.Gr
