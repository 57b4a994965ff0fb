/- General lemmas, of any program: memory that only grows, slices that read as lists, rows that the call itself made, append and make. No conditions but those that each theorem states. -/
import Derived.WalkKit
import Derived.WalkSpells
import Derived.WalkLawsBesides
import Derived.Deep.QuietTactic
import Derived.BigQuiet
namespace Go.Gr
open Go.RowKit
set_option linter.unusedVariables false
theorem hide {p : Prop} (h : p) : Hid p := h

/-- w' is w with more memory: all that was there is as it was. -/
def Ext (w w' : World) : Prop := Below w.heap.size w w'
theorem Ext.refl (w : World) : Ext w w := Below.refl _ _
theorem Ext.trans {a b c : World} (h : Ext a b) (k : Ext b c) : Ext a c := Below.trans h (Below.mono k h.size)
theorem Ext.alloc {a b : World} (h : Ext a b) (o : Obj) : Ext a (b.alloc o) := Below.alloc h h.size o
theorem Ext.drew {a b : World} (h : Ext a b) : Ext a b.drew := Below.drew h

theorem add_add (a : Addr) (i j : Nat) : (a.add i).add j = a.add (i + j) := by
  unfold Addr.add
  by_cases hi : i = 0 <;> by_cases hj : j = 0 <;> simp [hi, hj, Nat.add_assoc]
theorem add_block (a : Addr) (i : Nat) : (a.add i).block = a.block := by
  unfold Addr.add; split <;> rfl

/-- the slice that begins at A holds the values xs, one cell each -/
def Rd (w : World) (A : Option Addr) (xs : List Value) : Prop :=
  ∀ j u, xs[j]? = some u → ∃ ad, A = some ad ∧ w.cell? (ad.add j) = some u

theorem cell_lt {w : World} {a : Addr} {u : Value} (h : w.cell? a = some u) : a.block < w.heap.size := by
  rcases Nat.lt_or_ge a.block w.heap.size with h1 | h1
  · exact h1
  · unfold World.cell? at h; rw [Array.getElem?_eq_none h1] at h; cases h

section
variable {w w' : World} {A : Option Addr} {xs : List Value}
theorem Rd.nil (w : World) (A : Option Addr) : Rd w A [] := fun j u h => by simp at h
theorem Rd.ext (h : Rd w A xs) (k : Ext w w') : Rd w' A xs := fun j u hu => by
  obtain ⟨ad, e, hc⟩ := h j u hu
  exact ⟨ad, e, (Below.cell k (cell_lt hc)).trans hc⟩
theorem Rd.at_ (h : Rd w A xs) {k : Nat} (hk : k < xs.length) : ∃ ad, A = some ad ∧ w.cell? (ad.add k) = some xs[k] :=
  h k _ (List.getElem?_eq_getElem hk)
theorem Rd.take (h : Rd w A xs) (k : Nat) : Rd w A (xs.take k) := fun j u hu => by
  rw [List.getElem?_take] at hu
  split at hu
  · exact h j u hu
  · cases hu
theorem Rd.drop (h : Rd w A xs) (k cap : Nat) (hc : cap = k → xs.length ≤ k) : Rd w (if cap = k then A else A.map (·.add k)) (xs.drop k) := fun j u hu => by
  rw [List.getElem?_drop] at hu
  obtain ⟨ad, rfl, hcell⟩ := h _ u hu
  have hne : cap ≠ k := fun e => by
    have := hc e
    have h2 : k + j < xs.length := by
      rcases Nat.lt_or_ge (k + j) xs.length with h3 | h3
      · exact h3
      · rw [List.getElem?_eq_none h3] at hu; cases hu
    omega
  rw [if_neg hne]
  exact ⟨ad.add k, rfl, by rw [add_add]; exact hcell⟩
end

/-- it returns v, and nothing has changed but the count of draws -/
def RetQ (w : World) (v : Value) (e : Ending) (w' : World) : Prop := e = .returned v ∧ ∃ n, w' = w.drewN n
theorem RetQ.mk {w : World} {v v' : Value} (n : Nat) (h : v' = v) : RetQ w v (.returned v') (w.drewN n) := ⟨by rw [h], n, rfl⟩
theorem RetQ.same {w : World} {v v' : Value} (h : v' = v) : RetQ w v (.returned v') w := ⟨by rw [h], 0, rfl⟩
theorem vint {k : IntKind} {a b : Int} (h : a = b) : Value.int k a = .int k b := by rw [h]
theorem tup2 {k k' : IntKind} {a b c d : Int} (h : a = b) (h' : c = d) : Value.tuple #[.int k a, .int k' c] = .tuple #[.int k b, .int k' d] := by rw [h, h']
/-- bytes as values -/
def byt (l : List Int) : List Value := l.map (Value.int .u8)
@[simp] theorem byt_length (l : List Int) : (byt l).length = l.length := by simp [byt]
theorem byt_get {l : List Int} {k : Nat} (hk : k < l.length) : (byt l)[k]'(by simpa using hk) = .int .u8 l[k] := by simp [byt]

theorem byt_drop (l : List Int) (k : Nat) : (byt l).drop k = byt (l.drop k) := by simp [byt]
theorem byt_take (l : List Int) (k : Nat) : (byt l).take k = byt (l.take k) := by simp [byt]
theorem Rd.dropB {w : World} {A : Option Addr} {l : List Int} (h : Rd w A (byt l)) (k cap : Nat) (hc : l.length ≤ cap) (hk : k ≤ l.length) :
    (cap = k → Rd w A (byt (l.drop k))) ∧ (¬ cap = k → Rd w (A.map (·.add k)) (byt (l.drop k))) := by
  have := h.drop k cap (fun e => by simp; omega)
  rw [byt_drop] at this
  exact ⟨fun e => by rwa [if_pos e] at this, fun e => by rwa [if_neg e] at this⟩
theorem Ext.drewN {a b : World} (h : Ext a b) (n : Nat) : Ext a (b.drewN n) := ⟨h.os, h.tape, h.output, h.size, h.block⟩
theorem Rd.drewN {w : World} {A : Option Addr} {xs : List Value} (h : Rd w A xs) (n : Nat) : Rd (w.drewN n) A xs := h
theorem byt_one (l : List Int) : ∀ u ∈ byt l, u.oneCell' = true := fun u hu => by
  obtain ⟨x, _, rfl⟩ := List.mem_map.1 hu; rfl
section
variable {P : Program}
/-- string(b) -/
theorem conv_bytes {w : World} {A : Option Addr} {l : List Int} (h : Rd w A (byt l)) (src e dst : TypeId) (cap n : Nat) (hn : n = l.length)
    (hs : P.underlying src = some (.slice e)) (he : P.underlying e = some (.int .u8)) (hd : P.underlying dst = some .string) :
    (convert src dst (.slice A n cap)).run P w = .ok (.string (strOfNums l)) w := by
  subst hn
  rw [run_convert_bytes_string w src dst e A _ cap hs he hd]
  rcases hA : A with _ | ad
  · have : l = [] := by
      rcases l with _ | ⟨x, r⟩
      · rfl
      · obtain ⟨ad, e, _⟩ := h 0 (.int .u8 x) (by simp [byt])
        rw [hA] at e; cases e
    subst this
    simp [Conv.bytesToString]; rfl
  · have hl : (loadCells ad l.length).run P w = .ok (l.map (Value.int .u8)).toArray w := by
      have := run_loadCells_list (P := P) w ad (byt l) (fun j v hj => by
        obtain ⟨ad', e, hc⟩ := h j v hj
        rw [hA] at e; cases e; exact hc)
      simpa [byt] using this
    rw [run_bytesToString w ad l.length cap l hl, foldl_push_bytes]
    simp [strOfNums, ByteArray.empty, ByteArray.emptyWithCapacity]
    rfl
end

/-- what the call itself made: a slice of one-cell elements, from block B on -/
def Own (B : Nat) (w : World) (e : TypeId) (v : Value) (xs : List Value) : Prop := w.ownsRow B e 1 v xs.length xs

theorem Own.form {B : Nat} {w : World} {e : TypeId} {v : Value} {xs : List Value} (h : Own B w e v xs) :
    ∃ A c, v = .slice A xs.length c ∧ Rd w A xs ∧ xs.length ≤ c ∧ (∀ g, A = some g → B ≤ g.block) := by
  rcases h.2 with ⟨rfl, h0⟩ | ⟨g, cap, cur, rfl, hb, hh, hn, _, _, hx⟩
  · have : xs = [] := List.eq_nil_of_length_eq_zero h0
    subst this
    exact ⟨none, 0, rfl, Rd.nil _ _, Nat.le_refl _, fun g h => by cases h⟩
  · refine ⟨_, _, rfl, fun j u hu => ⟨_, rfl, ?_⟩, hn, fun g' h => by cases h; exact hb⟩
    have hj : j < xs.length := by
      rcases Nat.lt_or_ge j xs.length with h3 | h3
      · exact h3
      · rw [List.getElem?_eq_none h3] at hu; cases hu
    have hadd : (⟨g, 0, none⟩ : Addr).add j = ⟨g, j, none⟩ := by unfold Addr.add; split <;> simp_all
    rw [hadd]
    simp only [World.cell?, hh]
    rw [← hx] at hu
    simp only [Nat.mul_one, List.getElem?_take, if_pos hj] at hu
    simpa using hu
theorem Own.bytes {B : Nat} {w : World} {e : TypeId} {v : Value} {l : List Int} (h : Own B w e v (byt l)) :
    ∃ A c, v = .slice A l.length c ∧ Rd w A (byt l) := by
  obtain ⟨A, c, rfl, hr, _, _⟩ := h.form
  exact ⟨A, c, by rw [byt_length], hr⟩
theorem Own.ext {B : Nat} {w w' : World} {e : TypeId} {v : Value} {xs : List Value} (h : Own B w e v xs) (k : Ext w w') : Own B w' e v xs := by
  refine ⟨h.1, ?_⟩
  rcases h.2 with h0 | ⟨g, cap, cur, rfl, hb, hh, r⟩
  · exact .inl h0
  · refine .inr ⟨g, cap, cur, rfl, hb, ?_, r⟩
    have hlt : g < w.heap.size := by
      rcases Nat.lt_or_ge g w.heap.size with h3 | h3
      · exact h3
      · rw [Array.getElem?_eq_none h3] at hh; cases hh
    rw [k.block g hlt]; exact hh

theorem Own.nil (B : Nat) (w : World) (e : TypeId) : Own B w e (.slice none 0 0) [] := World.ownsRow_nil _ _ _ _
theorem Own.low {B : Nat} {w : World} {e : TypeId} {v : Value} {xs : List Value} (h : Own B w e v xs) : ∀ k, v.ownBlock = some k → B ≤ k := fun k hk => (World.ownsRow.lt h k hk).1

section
variable {P : Program} {w : World}
theorem run_append_none_src (base : Nat) (t ty e : TypeId) (i : TypeInfo) (size : Nat) (ht : P.underlying t = some (.slice e)) (hi : P.info? e = some i)
    (v : Value) (n : Nat) (xs : List Value) (hown : w.ownsRow base e size v n xs) (c : Nat) : (Builtin.append_ #[t, t] ty #[v, .slice none 0 c]).run P w = .ok v w := by
  rcases hown.2 with ⟨rfl, rfl⟩ | ⟨g, cap, cur, rfl, _, _, hnc, _⟩
  · simp [Builtin.append_, run_underlying ht, sizeOf, typeInfo, hi, Builtin.lenOf, Builtin.firstCells]
  · simp [Builtin.append_, run_underlying ht, sizeOf, typeInfo, hi, Builtin.lenOf, Builtin.firstCells, hnc, storeCells]

/-- append(v, x...): what the call itself owns, grown by the cells that x reads as. -/
theorem run_append_rd (base : Nat) (t ty e : TypeId) (i : TypeInfo) (z : Value) (size bytes : Nat) (ht : P.underlying t = some (.slice e)) (hi : P.info? e = some i) (hz : i.zero = some z)
    (hsize : i.size = size) (hby : i.bytes = bytes) (hzs : z.cells.size = size) (hsz : 0 < size)
    (v : Value) (n : Nat) (xs : List Value) (hown : w.ownsRow base e size v n xs) (A : Option Addr) (m c : Nat) (news : List Value) (hl : news.length = m * size) (hr : Rd w A news)
    (h1 : ∀ u ∈ news, u.oneCell' = true) (h63 : n + m ≤ maxLen) (hbytes : (n + m) * bytes ≤ 140737488355328) (hbase : base ≤ w.heap.size) :
    ∃ v' w', (Builtin.append_ #[t, t] ty #[v, .slice A m c]).run P w = .ok v' w' ∧ w'.ownsRow base e size v' (n + m) (xs ++ news) ∧ w.grownBy w' v.ownBlock := by
  rcases A with _ | ad
  · have hn : news = [] := by
      rcases news with _ | ⟨x, r⟩
      · rfl
      · obtain ⟨ad, e, _⟩ := hr 0 x (by simp); cases e
    subst hn
    have hm : m = 0 := by
      rcases Nat.eq_zero_or_pos m with h | h
      · exact h
      · have := Nat.mul_pos h hsz; simp at hl; omega
    subst hm
    exact ⟨v, w, run_append_none_src base t ty e i size ht hi v n xs hown c, by simpa using hown, World.grownBy.refl w _⟩
  · obtain ⟨v', w', hrun, h2, h3, _⟩ := run_append_own (P := P) w base t ty e i z size bytes ht hi hz hsize hby hzs hsz v n xs hown ad m c news hl
      (fun j u hu => by obtain ⟨ad', e, hc⟩ := hr j u hu; cases e; exact hc) h1 h63 hbytes hbase
    exact ⟨v', w', hrun, h2, h3⟩

theorem wpList_append_rd {ops : Array Oper} {rest : List Oper} {o : Oper} {a : Act} {Q : Exit → Act → World → Prop} (hgd : o.guard = none) (s x : Operand) (t : TypeId)
    (ho : o.op = .call { callee := .builtin .append, args := #[s, x], argTypes := #[t, t] })
    (base : Nat) (e : TypeId) (i : TypeInfo) (z : Value) (size bytes : Nat) (ht : P.underlying t = some (.slice e)) (hi : P.info? e = some i) (hz : i.zero = some z)
    (hsize : i.size = size) (hby : i.bytes = bytes) (hzs : z.cells.size = size) (hsz : 0 < size)
    (v : Value) (n : Nat) (xs : List Value) (hs : a.eval s = v) (hown : w.ownsRow base e size v n xs) (A : Option Addr) (m c : Nat) (news : List Value) (hx : a.eval x = .slice A m c) (hl : news.length = m * size) (hr : Rd w A news)
    (h1 : ∀ u ∈ news, u.oneCell' = true) (h63 : n + m ≤ maxLen) (hbytes : (n + m) * bytes ≤ 140737488355328) (hbase : base ≤ w.heap.size)
    (h : ∀ v' w', w'.ownsRow base e size v' (n + m) (xs ++ news) → w.grownBy w' v.ownBlock → wpList P ops Q rest (a.put o.dst v') w') : wpList P ops Q (o :: rest) a w :=
  wpList_plain hgd fun K hK => by
    obtain ⟨v', w', hrun, h2, h3⟩ := run_append_rd (P := P) (w := w) base t o.type e i z size bytes ht hi hz hsize hby hzs hsz v n xs hown A m c news hl hr h1 h63 hbytes hbase
    unfold Oper.wp execOp
    simp only [ho, resolve, invoke, builtin, Sem.run_bind, Sem.run_pure, Result.andThen_ok, List.map_toArray, List.map_cons, List.map_nil, hs, hx, hrun]
    exact hK _ _ (h v' w' h2 h3)

/-- append(v, x...) of bytes and other elements of one cell. -/
theorem wpList_app {ops : Array Oper} {rest : List Oper} {o : Oper} {a : Act} {Q : Exit → Act → World → Prop} (hgd : o.guard = none) (s x : Operand) (t : TypeId)
    (ho : o.op = .call { callee := .builtin .append, args := #[s, x], argTypes := #[t, t] })
    (e : TypeId) (i : TypeInfo) (z : Value) (bytes : Nat) (ht : P.underlying t = some (.slice e)) (hi : P.info? e = some i) (hz : i.zero = some z)
    (hsize : i.size = 1) (hby : i.bytes = bytes) (hzs : z.cells.size = 1)
    {B : Nat} {v : Value} {xs : List Value} (hs : a.eval s = v) (hown : Own B w e v xs) {A : Option Addr} {m c : Nat} {news : List Value} (hx : a.eval x = .slice A m c) (hl : m = news.length) (hr : Rd w A news)
    (h1 : ∀ u ∈ news, u.oneCell' = true) (hlen : xs.length + news.length ≤ 1000000000) (hb : bytes ≤ 1000) (hB : B ≤ w.heap.size)
    (h : ∀ v' w', Own B w' e v' (xs ++ news) → Below B w w' → w.grownBy w' v.ownBlock → wpList P ops Q rest (a.put o.dst v') w') : wpList P ops Q (o :: rest) a w := by
  subst hl
  have hbb : (xs.length + news.length) * bytes ≤ 1000000000 * 1000 := Nat.mul_le_mul hlen hb
  refine wpList_append_rd hgd s x t ho B e i z 1 bytes ht hi hz hsize hby hzs (by decide) v xs.length xs hs hown A news.length c news hx (by simp) hr h1
    (by unfold maxLen; omega) (by omega) hB fun v' w' h2 h3 => h v' w' (by unfold Own; rw [List.length_append]; exact h2) (Below.grown (Below.refl _ _) h3 hB hown.low) h3

theorem Rd.one (w : World) (u : Value) (e : TypeId) : Rd (w.alloc (.cells #[u] e)) (some ⟨w.heap.size, 0, none⟩) [u] :=
  fun j x hx => ⟨_, rfl, cell_one_new w u e j x hx⟩

/-- append(v, u): the element lies in a new block of its own. -/
theorem wpList_push {ops : Array Oper} {rest : List Oper} {o : Oper} {a : Act} {Q : Exit → Act → World → Prop} (hgd : o.guard = none) (s x : Operand) (t : TypeId)
    (ho : o.op = .call { callee := .builtin .append, args := #[s, x], argTypes := #[t, t] })
    (e : TypeId) (i : TypeInfo) (z : Value) (bytes : Nat) (ht : P.underlying t = some (.slice e)) (hi : P.info? e = some i) (hz : i.zero = some z)
    (hsize : i.size = 1) (hby : i.bytes = bytes) (hzs : z.cells.size = 1)
    {B : Nat} {v : Value} {xs : List Value} {u : Value} {e' : TypeId} (hs : a.eval s = v) (hown : Own B w e v xs) (hx : a.eval x = .slice (some ⟨w.heap.size, 0, none⟩) 1 1)
    (h1 : u.oneCell' = true) (hlen : xs.length < 1000000000) (hb : bytes ≤ 1000) (hB : B ≤ w.heap.size)
    (h : ∀ v' w', Own B w' e v' (xs ++ [u]) → Below B w w' → (w.alloc (.cells #[u] e')).grownBy w' v.ownBlock → wpList P ops Q rest (a.put o.dst v') w') : wpList P ops Q (o :: rest) a (w.alloc (.cells #[u] e')) :=
  wpList_app (w := w.alloc (.cells #[u] e')) (news := [u]) hgd s x t ho e i z bytes ht hi hz hsize hby hzs hs (hown.ext ((Ext.refl w).alloc _)) hx rfl (Rd.one w u e') (by simp [h1]) (by simp; omega) hb (by simp; omega)
    fun v' w' h2 h3 h4 => h v' w' h2 ((Below.alloc (Below.refl _ _) hB _).trans h3) h4
end


section
variable {P : Program} {w : World}
/-- make([]T, 0, C) -/
theorem wpList_make0 {ops : Array Oper} {rest : List Oper} {o : Oper} {a : Act} {Q : Exit → Act → World → Prop} (hg : o.guard = none) (l c : Operand) (t : TypeId) (hop : o.op = Op.makeSlice t l c)
    (e : TypeId) (i : TypeInfo) (z : Value) (bytes : Nat) (h1 : P.underlying t = some (.slice e)) (h2 : P.info? e = some i) (h3 : i.zero = some z) (h4 : i.size = 1) (h5 : i.bytes = bytes)
    {kl kc : IntKind} {C : Int} (hl : a.eval l = .int kl 0) (hc : a.eval c = .int kc C) (hC : 0 ≤ C) (hC2 : C ≤ 1000000000) (hb : bytes ≤ 1000)
    (hK : ∀ v' w', Own w.heap.size w' e v' [] → Below w.heap.size w w' → wpList P ops Q rest (a.put o.dst v') w') : wpList P ops Q (o :: rest) a w :=
  wpList_make_own w hg l c t hop w.heap.size e i z 1 h1 h2 h3 h4 kl kc C C.toNat hl hc (by omega)
    (by rw [h5]; exact Nat.le_trans (Nat.mul_le_mul hb (show C.toNat ≤ 1000000000 by omega)) (by decide)) (by unfold maxLen; omega) (Nat.le_refl _)
    fun w' ho hg => hK _ w' ho (Below.grown (Below.refl _ _) hg (Nat.le_refl _) (fun k h => by cases h))
end

/-- block g is just these cells, none of them frozen -/
def Blk (w : World) (g : Nat) (e : TypeId) (cs : List Value) : Prop := w.heap[g]? = some (.cells cs.toArray e (0, 0))
section
variable {w w' : World} {g : Nat} {e : TypeId} {cs : List Value}
theorem Blk.lt (h : Blk w g e cs) : g < w.heap.size := by
  rcases Nat.lt_or_ge g w.heap.size with h1 | h1
  · exact h1
  · unfold Blk at h; rw [Array.getElem?_eq_none h1] at h; cases h
theorem Blk.cell (h : Blk w g e cs) (i : Nat) : w.cell? ⟨g, i, none⟩ = cs[i]? := by
  unfold Blk at h; simp [World.cell?, h]
theorem Blk.free (h : Blk w g e cs) (i : Nat) : w.frozen? ⟨g, i, none⟩ = false := by
  unfold Blk at h; simp [World.frozen?, h]
theorem Blk.ext (h : Blk w g e cs) (k : Ext w w') : Blk w' g e cs := (k.block g h.lt).trans h
theorem Blk.set (h : Blk w g e cs) (i : Nat) (u : Value) : Blk (w.setCell ⟨g, i, none⟩ u) g e (cs.set i u) := by
  unfold Blk at h ⊢
  simp [World.setCell, Array.getElem?_modify, h]
theorem Blk.far (h : Blk w g e cs) {p : Addr} (hp : g ≠ p.block) (u : Value) : Blk (w.setCell p u) g e cs :=
  (Below.heap_setCell w p u g hp).trans h
theorem Blk.below {B : Nat} (h : Blk w g e cs) (k : Below B w w') (hg : g < B) : Blk w' g e cs := (k.block g hg).trans h
theorem Blk.grown {row : Option Nat} (h : Blk w g e cs) (hg : w.grownBy w' row) (hne : row ≠ some g) : Blk w' g e cs := (hg.block g h.lt (fun e => hne e.symm)).trans h
theorem Blk.alloc (h : Blk w g e cs) (o : Obj) : Blk (w.alloc o) g e cs := h.ext ((Ext.refl w).alloc o)
theorem Blk.drewN (h : Blk w g e cs) (n : Nat) : Blk (w.drewN n) g e cs := h
theorem Blk.new (w : World) (e : TypeId) (cs : List Value) : Blk (w.alloc (.cells cs.toArray e)) w.heap.size e cs := heap_alloc_new w _
theorem Blk.rd (h : Blk w g e cs) : Rd w (some ⟨g, 0, none⟩) cs := fun j u hu => ⟨_, rfl, by
  have hadd : (⟨g, 0, none⟩ : Addr).add j = ⟨g, j, none⟩ := by unfold Addr.add; split <;> simp_all
  rw [hadd, h.cell j, hu]⟩
theorem Blk.own (h : Blk w g e cs) {B : Nat} (hB : B ≤ g) (hl : cs.length ≤ 1000000000) : Own B w e (.slice (some ⟨g, 0, none⟩) cs.length cs.length) cs :=
  ⟨by simp, .inr ⟨g, cs.length, cs.toArray, rfl, hB, h, Nat.le_refl _, by unfold maxLen; omega, by simp, by simp⟩⟩
end
theorem made_list (z : Value) (hz : z.cells = #[z]) (n : Nat) : madeCells z.cells n = (List.replicate n z).toArray := by
  rw [hz]
  apply Array.ext
  · simp [madeCells]
  · intro i h1 h2
    simp [madeCells, Nat.mod_one]
section
variable {P : Program} {w : World}
/-- make([]T, C) of elements of one cell -/
theorem wpList_makeN {ops : Array Oper} {rest : List Oper} {o : Oper} {a : Act} {Q : Exit → Act → World → Prop} (hg : o.guard = none) (l c : Operand) (t : TypeId) (hop : o.op = Op.makeSlice t l c)
    (e : TypeId) (i : TypeInfo) (z : Value) (bytes : Nat) (h1 : P.underlying t = some (.slice e)) (h2 : P.info? e = some i) (h3 : i.zero = some z) (h4 : i.size = 1) (h5 : i.bytes = bytes) (hzc : z.cells = #[z])
    {kl kc : IntKind} {C : Int} (hl : a.eval l = .int kl C) (hc : a.eval c = .int kc C) (hC : 0 ≤ C) (hC2 : C ≤ 1000000000) (hb : bytes ≤ 1000)
    (hK : ∀ w', Blk w' w.heap.size e (List.replicate C.toNat z) → Ext w w' → wpList P ops Q rest (a.put o.dst (.slice (some ⟨w.heap.size, 0, none⟩) C.toNat C.toNat)) w') : wpList P ops Q (o :: rest) a w := by
  refine wpList_plain hg fun K hK' => ?_
  have hbb : (i.bytes : Int) * C ≤ 281474976710656 := by
    rw [h5]
    have := Int.mul_le_mul_of_nonneg_right (show (bytes : Int) ≤ 1000 by omega) hC
    omega
  have hr := run_make (P := P) w t e i z h1 h2 h3 kl kc C C hC (Int.le_refl _) hbb (by omega)
  rw [h4, Nat.mul_one, made_list z hzc] at hr
  unfold Oper.wp execOp
  simp only [hop, hl, hc, Sem.run_bind, hr, Result.andThen_ok, Sem.run_pure]
  exact hK' _ _ (hK _ (Blk.new w e _) ((Ext.refl w).alloc _))
end
end Go.Gr
