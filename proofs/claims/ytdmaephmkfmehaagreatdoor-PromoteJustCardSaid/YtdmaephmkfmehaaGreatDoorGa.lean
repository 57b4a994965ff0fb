/- Texts put together: Base Mono Tail Tail2 U Eqs Sep MonoR Arms Flat Rows2 RowM Push Bits. -/
import Derived.WalkKit
import Derived.WalkSpells
import Derived.WalkLawsBesides
import Derived.Deep.QuietTactic
import Derived.BigQuiet
import Derived.Lib.QuietBelow
import Derived.OrdersHeld
import Derived.Deep.RegionHeld3
import Derived.StillTail
import Derived.Laws.Rows
import Derived.Laws.Tables
import Derived.Deep.MidRow
import Derived.Laws.CopyRow
import Derived.Laws.CopyOwn
import Derived.ChangeKeysEq
import Derived.Laws.StructEq
import Derived.ProofKit
import Derived.OpenShut
namespace Go.Gr
open Go.RowKit
set_option linter.unusedVariables false
theorem hide {p : Prop} (h : p) : Hid p := h

/-- w' is w with more memory: all that was there is as it was. -/
def Ext (w w' : World) : Prop := Below w.heap.size w w'
theorem Ext.refl (w : World) : Ext w w := Below.refl _ _
theorem Ext.trans {a b c : World} (h : Ext a b) (k : Ext b c) : Ext a c := Below.trans h (Below.mono k h.size)
theorem Ext.alloc {a b : World} (h : Ext a b) (o : Obj) : Ext a (b.alloc o) := Below.alloc h h.size o
theorem Ext.drew {a b : World} (h : Ext a b) : Ext a b.drew := Below.drew h

theorem add_add (a : Addr) (i j : Nat) : (a.add i).add j = a.add (i + j) := by
  unfold Addr.add
  by_cases hi : i = 0 <;> by_cases hj : j = 0 <;> simp [hi, hj, Nat.add_assoc]
theorem add_block (a : Addr) (i : Nat) : (a.add i).block = a.block := by
  unfold Addr.add; split <;> rfl

/-- the slice that begins at A holds the values xs, one cell each -/
def Rd (w : World) (A : Option Addr) (xs : List Value) : Prop :=
  ∀ j u, xs[j]? = some u → ∃ ad, A = some ad ∧ w.cell? (ad.add j) = some u

theorem cell_lt {w : World} {a : Addr} {u : Value} (h : w.cell? a = some u) : a.block < w.heap.size := by
  rcases Nat.lt_or_ge a.block w.heap.size with h1 | h1
  · exact h1
  · unfold World.cell? at h; rw [Array.getElem?_eq_none h1] at h; cases h

section
variable {w w' : World} {A : Option Addr} {xs : List Value}
theorem Rd.nil (w : World) (A : Option Addr) : Rd w A [] := fun j u h => by simp at h
theorem Rd.ext (h : Rd w A xs) (k : Ext w w') : Rd w' A xs := fun j u hu => by
  obtain ⟨ad, e, hc⟩ := h j u hu
  exact ⟨ad, e, (Below.cell k (cell_lt hc)).trans hc⟩
theorem Rd.at_ (h : Rd w A xs) {k : Nat} (hk : k < xs.length) : ∃ ad, A = some ad ∧ w.cell? (ad.add k) = some xs[k] :=
  h k _ (List.getElem?_eq_getElem hk)
theorem Rd.take (h : Rd w A xs) (k : Nat) : Rd w A (xs.take k) := fun j u hu => by
  rw [List.getElem?_take] at hu
  split at hu
  · exact h j u hu
  · cases hu
theorem Rd.drop (h : Rd w A xs) (k cap : Nat) (hc : cap = k → xs.length ≤ k) : Rd w (if cap = k then A else A.map (·.add k)) (xs.drop k) := fun j u hu => by
  rw [List.getElem?_drop] at hu
  obtain ⟨ad, rfl, hcell⟩ := h _ u hu
  have hne : cap ≠ k := fun e => by
    have := hc e
    have h2 : k + j < xs.length := by
      rcases Nat.lt_or_ge (k + j) xs.length with h3 | h3
      · exact h3
      · rw [List.getElem?_eq_none h3] at hu; cases hu
    omega
  rw [if_neg hne]
  exact ⟨ad.add k, rfl, by rw [add_add]; exact hcell⟩
end

/-- it returns v, and nothing has changed but the count of draws -/
def RetQ (w : World) (v : Value) (e : Ending) (w' : World) : Prop := e = .returned v ∧ ∃ n, w' = w.drewN n
theorem RetQ.mk {w : World} {v v' : Value} (n : Nat) (h : v' = v) : RetQ w v (.returned v') (w.drewN n) := ⟨by rw [h], n, rfl⟩
theorem RetQ.same {w : World} {v v' : Value} (h : v' = v) : RetQ w v (.returned v') w := ⟨by rw [h], 0, rfl⟩
theorem vint {k : IntKind} {a b : Int} (h : a = b) : Value.int k a = .int k b := by rw [h]
theorem tup2 {k k' : IntKind} {a b c d : Int} (h : a = b) (h' : c = d) : Value.tuple #[.int k a, .int k' c] = .tuple #[.int k b, .int k' d] := by rw [h, h']
/-- bytes as values -/
def byt (l : List Int) : List Value := l.map (Value.int .u8)
@[simp] theorem byt_length (l : List Int) : (byt l).length = l.length := by simp [byt]
theorem byt_get {l : List Int} {k : Nat} (hk : k < l.length) : (byt l)[k]'(by simpa using hk) = .int .u8 l[k] := by simp [byt]

theorem byt_drop (l : List Int) (k : Nat) : (byt l).drop k = byt (l.drop k) := by simp [byt]
theorem byt_take (l : List Int) (k : Nat) : (byt l).take k = byt (l.take k) := by simp [byt]
theorem Rd.dropB {w : World} {A : Option Addr} {l : List Int} (h : Rd w A (byt l)) (k cap : Nat) (hc : l.length ≤ cap) (hk : k ≤ l.length) :
    (cap = k → Rd w A (byt (l.drop k))) ∧ (¬ cap = k → Rd w (A.map (·.add k)) (byt (l.drop k))) := by
  have := h.drop k cap (fun e => by simp; omega)
  rw [byt_drop] at this
  exact ⟨fun e => by rwa [if_pos e] at this, fun e => by rwa [if_neg e] at this⟩
theorem Ext.drewN {a b : World} (h : Ext a b) (n : Nat) : Ext a (b.drewN n) := ⟨h.os, h.tape, h.output, h.size, h.block⟩
theorem Rd.drewN {w : World} {A : Option Addr} {xs : List Value} (h : Rd w A xs) (n : Nat) : Rd (w.drewN n) A xs := h
theorem byt_one (l : List Int) : ∀ u ∈ byt l, u.oneCell' = true := fun u hu => by
  obtain ⟨x, _, rfl⟩ := List.mem_map.1 hu; rfl
section
variable {P : Program}
/-- string(b) -/
theorem conv_bytes {w : World} {A : Option Addr} {l : List Int} (h : Rd w A (byt l)) (src e dst : TypeId) (cap n : Nat) (hn : n = l.length)
    (hs : P.underlying src = some (.slice e)) (he : P.underlying e = some (.int .u8)) (hd : P.underlying dst = some .string) :
    (convert src dst (.slice A n cap)).run P w = .ok (.string (strOfNums l)) w := by
  subst hn
  rw [run_convert_bytes_string w src dst e A _ cap hs he hd]
  rcases hA : A with _ | ad
  · have : l = [] := by
      rcases l with _ | ⟨x, r⟩
      · rfl
      · obtain ⟨ad, e, _⟩ := h 0 (.int .u8 x) (by simp [byt])
        rw [hA] at e; cases e
    subst this
    simp [Conv.bytesToString]; rfl
  · have hl : (loadCells ad l.length).run P w = .ok (l.map (Value.int .u8)).toArray w := by
      have := run_loadCells_list (P := P) w ad (byt l) (fun j v hj => by
        obtain ⟨ad', e, hc⟩ := h j v hj
        rw [hA] at e; cases e; exact hc)
      simpa [byt] using this
    rw [run_bytesToString w ad l.length cap l hl, foldl_push_bytes]
    simp [strOfNums, ByteArray.empty, ByteArray.emptyWithCapacity]
    rfl
end

/-- what the call itself made: a slice of one-cell elements, from block B on -/
def Own (B : Nat) (w : World) (e : TypeId) (v : Value) (xs : List Value) : Prop := w.ownsRow B e 1 v xs.length xs

theorem Own.form {B : Nat} {w : World} {e : TypeId} {v : Value} {xs : List Value} (h : Own B w e v xs) :
    ∃ A c, v = .slice A xs.length c ∧ Rd w A xs ∧ xs.length ≤ c ∧ (∀ g, A = some g → B ≤ g.block) := by
  rcases h.2 with ⟨rfl, h0⟩ | ⟨g, cap, cur, rfl, hb, hh, hn, _, _, hx⟩
  · have : xs = [] := List.eq_nil_of_length_eq_zero h0
    subst this
    exact ⟨none, 0, rfl, Rd.nil _ _, Nat.le_refl _, fun g h => by cases h⟩
  · refine ⟨_, _, rfl, fun j u hu => ⟨_, rfl, ?_⟩, hn, fun g' h => by cases h; exact hb⟩
    have hj : j < xs.length := by
      rcases Nat.lt_or_ge j xs.length with h3 | h3
      · exact h3
      · rw [List.getElem?_eq_none h3] at hu; cases hu
    have hadd : (⟨g, 0, none⟩ : Addr).add j = ⟨g, j, none⟩ := by unfold Addr.add; split <;> simp_all
    rw [hadd]
    simp only [World.cell?, hh]
    rw [← hx] at hu
    simp only [Nat.mul_one, List.getElem?_take, if_pos hj] at hu
    simpa using hu
theorem Own.bytes {B : Nat} {w : World} {e : TypeId} {v : Value} {l : List Int} (h : Own B w e v (byt l)) :
    ∃ A c, v = .slice A l.length c ∧ Rd w A (byt l) := by
  obtain ⟨A, c, rfl, hr, _, _⟩ := h.form
  exact ⟨A, c, by rw [byt_length], hr⟩
theorem Own.ext {B : Nat} {w w' : World} {e : TypeId} {v : Value} {xs : List Value} (h : Own B w e v xs) (k : Ext w w') : Own B w' e v xs := by
  refine ⟨h.1, ?_⟩
  rcases h.2 with h0 | ⟨g, cap, cur, rfl, hb, hh, r⟩
  · exact .inl h0
  · refine .inr ⟨g, cap, cur, rfl, hb, ?_, r⟩
    have hlt : g < w.heap.size := by
      rcases Nat.lt_or_ge g w.heap.size with h3 | h3
      · exact h3
      · rw [Array.getElem?_eq_none h3] at hh; cases hh
    rw [k.block g hlt]; exact hh

theorem Own.nil (B : Nat) (w : World) (e : TypeId) : Own B w e (.slice none 0 0) [] := World.ownsRow_nil _ _ _ _
theorem Own.low {B : Nat} {w : World} {e : TypeId} {v : Value} {xs : List Value} (h : Own B w e v xs) : ∀ k, v.ownBlock = some k → B ≤ k := fun k hk => (World.ownsRow.lt h k hk).1

section
variable {P : Program} {w : World}
theorem run_append_none_src (base : Nat) (t ty e : TypeId) (i : TypeInfo) (size : Nat) (ht : P.underlying t = some (.slice e)) (hi : P.info? e = some i)
    (v : Value) (n : Nat) (xs : List Value) (hown : w.ownsRow base e size v n xs) (c : Nat) : (Builtin.append_ #[t, t] ty #[v, .slice none 0 c]).run P w = .ok v w := by
  rcases hown.2 with ⟨rfl, rfl⟩ | ⟨g, cap, cur, rfl, _, _, hnc, _⟩
  · simp [Builtin.append_, run_underlying ht, sizeOf, typeInfo, hi, Builtin.lenOf, Builtin.firstCells]
  · simp [Builtin.append_, run_underlying ht, sizeOf, typeInfo, hi, Builtin.lenOf, Builtin.firstCells, hnc, storeCells]

/-- append(v, x...): what the call itself owns, grown by the cells that x reads as. -/
theorem run_append_rd (base : Nat) (t ty e : TypeId) (i : TypeInfo) (z : Value) (size bytes : Nat) (ht : P.underlying t = some (.slice e)) (hi : P.info? e = some i) (hz : i.zero = some z)
    (hsize : i.size = size) (hby : i.bytes = bytes) (hzs : z.cells.size = size) (hsz : 0 < size)
    (v : Value) (n : Nat) (xs : List Value) (hown : w.ownsRow base e size v n xs) (A : Option Addr) (m c : Nat) (news : List Value) (hl : news.length = m * size) (hr : Rd w A news)
    (h1 : ∀ u ∈ news, u.oneCell' = true) (h63 : n + m ≤ maxLen) (hbytes : (n + m) * bytes ≤ 140737488355328) (hbase : base ≤ w.heap.size) :
    ∃ v' w', (Builtin.append_ #[t, t] ty #[v, .slice A m c]).run P w = .ok v' w' ∧ w'.ownsRow base e size v' (n + m) (xs ++ news) ∧ w.grownBy w' v.ownBlock := by
  rcases A with _ | ad
  · have hn : news = [] := by
      rcases news with _ | ⟨x, r⟩
      · rfl
      · obtain ⟨ad, e, _⟩ := hr 0 x (by simp); cases e
    subst hn
    have hm : m = 0 := by
      rcases Nat.eq_zero_or_pos m with h | h
      · exact h
      · have := Nat.mul_pos h hsz; simp at hl; omega
    subst hm
    exact ⟨v, w, run_append_none_src base t ty e i size ht hi v n xs hown c, by simpa using hown, World.grownBy.refl w _⟩
  · obtain ⟨v', w', hrun, h2, h3, _⟩ := run_append_own (P := P) w base t ty e i z size bytes ht hi hz hsize hby hzs hsz v n xs hown ad m c news hl
      (fun j u hu => by obtain ⟨ad', e, hc⟩ := hr j u hu; cases e; exact hc) h1 h63 hbytes hbase
    exact ⟨v', w', hrun, h2, h3⟩

theorem wpList_append_rd {ops : Array Oper} {rest : List Oper} {o : Oper} {a : Act} {Q : Exit → Act → World → Prop} (hgd : o.guard = none) (s x : Operand) (t : TypeId)
    (ho : o.op = .call { callee := .builtin .append, args := #[s, x], argTypes := #[t, t] })
    (base : Nat) (e : TypeId) (i : TypeInfo) (z : Value) (size bytes : Nat) (ht : P.underlying t = some (.slice e)) (hi : P.info? e = some i) (hz : i.zero = some z)
    (hsize : i.size = size) (hby : i.bytes = bytes) (hzs : z.cells.size = size) (hsz : 0 < size)
    (v : Value) (n : Nat) (xs : List Value) (hs : a.eval s = v) (hown : w.ownsRow base e size v n xs) (A : Option Addr) (m c : Nat) (news : List Value) (hx : a.eval x = .slice A m c) (hl : news.length = m * size) (hr : Rd w A news)
    (h1 : ∀ u ∈ news, u.oneCell' = true) (h63 : n + m ≤ maxLen) (hbytes : (n + m) * bytes ≤ 140737488355328) (hbase : base ≤ w.heap.size)
    (h : ∀ v' w', w'.ownsRow base e size v' (n + m) (xs ++ news) → w.grownBy w' v.ownBlock → wpList P ops Q rest (a.put o.dst v') w') : wpList P ops Q (o :: rest) a w :=
  wpList_plain hgd fun K hK => by
    obtain ⟨v', w', hrun, h2, h3⟩ := run_append_rd (P := P) (w := w) base t o.type e i z size bytes ht hi hz hsize hby hzs hsz v n xs hown A m c news hl hr h1 h63 hbytes hbase
    unfold Oper.wp execOp
    simp only [ho, resolve, invoke, builtin, Sem.run_bind, Sem.run_pure, Result.andThen_ok, List.map_toArray, List.map_cons, List.map_nil, hs, hx, hrun]
    exact hK _ _ (h v' w' h2 h3)

/-- append(v, x...) of bytes and other elements of one cell. -/
theorem wpList_app {ops : Array Oper} {rest : List Oper} {o : Oper} {a : Act} {Q : Exit → Act → World → Prop} (hgd : o.guard = none) (s x : Operand) (t : TypeId)
    (ho : o.op = .call { callee := .builtin .append, args := #[s, x], argTypes := #[t, t] })
    (e : TypeId) (i : TypeInfo) (z : Value) (bytes : Nat) (ht : P.underlying t = some (.slice e)) (hi : P.info? e = some i) (hz : i.zero = some z)
    (hsize : i.size = 1) (hby : i.bytes = bytes) (hzs : z.cells.size = 1)
    {B : Nat} {v : Value} {xs : List Value} (hs : a.eval s = v) (hown : Own B w e v xs) {A : Option Addr} {m c : Nat} {news : List Value} (hx : a.eval x = .slice A m c) (hl : m = news.length) (hr : Rd w A news)
    (h1 : ∀ u ∈ news, u.oneCell' = true) (hlen : xs.length + news.length ≤ 1000000000) (hb : bytes ≤ 1000) (hB : B ≤ w.heap.size)
    (h : ∀ v' w', Own B w' e v' (xs ++ news) → Below B w w' → w.grownBy w' v.ownBlock → wpList P ops Q rest (a.put o.dst v') w') : wpList P ops Q (o :: rest) a w := by
  subst hl
  have hbb : (xs.length + news.length) * bytes ≤ 1000000000 * 1000 := Nat.mul_le_mul hlen hb
  refine wpList_append_rd hgd s x t ho B e i z 1 bytes ht hi hz hsize hby hzs (by decide) v xs.length xs hs hown A news.length c news hx (by simp) hr h1
    (by unfold maxLen; omega) (by omega) hB fun v' w' h2 h3 => h v' w' (by unfold Own; rw [List.length_append]; exact h2) (Below.grown (Below.refl _ _) h3 hB hown.low) h3

theorem Rd.one (w : World) (u : Value) (e : TypeId) : Rd (w.alloc (.cells #[u] e)) (some ⟨w.heap.size, 0, none⟩) [u] :=
  fun j x hx => ⟨_, rfl, cell_one_new w u e j x hx⟩

/-- append(v, u): the element lies in a new block of its own. -/
theorem wpList_push {ops : Array Oper} {rest : List Oper} {o : Oper} {a : Act} {Q : Exit → Act → World → Prop} (hgd : o.guard = none) (s x : Operand) (t : TypeId)
    (ho : o.op = .call { callee := .builtin .append, args := #[s, x], argTypes := #[t, t] })
    (e : TypeId) (i : TypeInfo) (z : Value) (bytes : Nat) (ht : P.underlying t = some (.slice e)) (hi : P.info? e = some i) (hz : i.zero = some z)
    (hsize : i.size = 1) (hby : i.bytes = bytes) (hzs : z.cells.size = 1)
    {B : Nat} {v : Value} {xs : List Value} {u : Value} {e' : TypeId} (hs : a.eval s = v) (hown : Own B w e v xs) (hx : a.eval x = .slice (some ⟨w.heap.size, 0, none⟩) 1 1)
    (h1 : u.oneCell' = true) (hlen : xs.length < 1000000000) (hb : bytes ≤ 1000) (hB : B ≤ w.heap.size)
    (h : ∀ v' w', Own B w' e v' (xs ++ [u]) → Below B w w' → (w.alloc (.cells #[u] e')).grownBy w' v.ownBlock → wpList P ops Q rest (a.put o.dst v') w') : wpList P ops Q (o :: rest) a (w.alloc (.cells #[u] e')) :=
  wpList_app (w := w.alloc (.cells #[u] e')) (news := [u]) hgd s x t ho e i z bytes ht hi hz hsize hby hzs hs (hown.ext ((Ext.refl w).alloc _)) hx rfl (Rd.one w u e') (by simp [h1]) (by simp; omega) hb (by simp; omega)
    fun v' w' h2 h3 h4 => h v' w' h2 ((Below.alloc (Below.refl _ _) hB _).trans h3) h4
end


section
variable {P : Program} {w : World}
/-- make([]T, 0, C) -/
theorem wpList_make0 {ops : Array Oper} {rest : List Oper} {o : Oper} {a : Act} {Q : Exit → Act → World → Prop} (hg : o.guard = none) (l c : Operand) (t : TypeId) (hop : o.op = Op.makeSlice t l c)
    (e : TypeId) (i : TypeInfo) (z : Value) (bytes : Nat) (h1 : P.underlying t = some (.slice e)) (h2 : P.info? e = some i) (h3 : i.zero = some z) (h4 : i.size = 1) (h5 : i.bytes = bytes)
    {kl kc : IntKind} {C : Int} (hl : a.eval l = .int kl 0) (hc : a.eval c = .int kc C) (hC : 0 ≤ C) (hC2 : C ≤ 1000000000) (hb : bytes ≤ 1000)
    (hK : ∀ v' w', Own w.heap.size w' e v' [] → Below w.heap.size w w' → wpList P ops Q rest (a.put o.dst v') w') : wpList P ops Q (o :: rest) a w :=
  wpList_make_own w hg l c t hop w.heap.size e i z 1 h1 h2 h3 h4 kl kc C C.toNat hl hc (by omega)
    (by rw [h5]; exact Nat.le_trans (Nat.mul_le_mul hb (show C.toNat ≤ 1000000000 by omega)) (by decide)) (by unfold maxLen; omega) (Nat.le_refl _)
    fun w' ho hg => hK _ w' ho (Below.grown (Below.refl _ _) hg (Nat.le_refl _) (fun k h => by cases h))
end

/-- block g is just these cells, none of them frozen -/
def Blk (w : World) (g : Nat) (e : TypeId) (cs : List Value) : Prop := w.heap[g]? = some (.cells cs.toArray e (0, 0))
section
variable {w w' : World} {g : Nat} {e : TypeId} {cs : List Value}
theorem Blk.lt (h : Blk w g e cs) : g < w.heap.size := by
  rcases Nat.lt_or_ge g w.heap.size with h1 | h1
  · exact h1
  · unfold Blk at h; rw [Array.getElem?_eq_none h1] at h; cases h
theorem Blk.cell (h : Blk w g e cs) (i : Nat) : w.cell? ⟨g, i, none⟩ = cs[i]? := by
  unfold Blk at h; simp [World.cell?, h]
theorem Blk.free (h : Blk w g e cs) (i : Nat) : w.frozen? ⟨g, i, none⟩ = false := by
  unfold Blk at h; simp [World.frozen?, h]
theorem Blk.ext (h : Blk w g e cs) (k : Ext w w') : Blk w' g e cs := (k.block g h.lt).trans h
theorem Blk.set (h : Blk w g e cs) (i : Nat) (u : Value) : Blk (w.setCell ⟨g, i, none⟩ u) g e (cs.set i u) := by
  unfold Blk at h ⊢
  simp [World.setCell, Array.getElem?_modify, h]
theorem Blk.far (h : Blk w g e cs) {p : Addr} (hp : g ≠ p.block) (u : Value) : Blk (w.setCell p u) g e cs :=
  (Below.heap_setCell w p u g hp).trans h
theorem Blk.below {B : Nat} (h : Blk w g e cs) (k : Below B w w') (hg : g < B) : Blk w' g e cs := (k.block g hg).trans h
theorem Blk.grown {row : Option Nat} (h : Blk w g e cs) (hg : w.grownBy w' row) (hne : row ≠ some g) : Blk w' g e cs := (hg.block g h.lt (fun e => hne e.symm)).trans h
theorem Blk.alloc (h : Blk w g e cs) (o : Obj) : Blk (w.alloc o) g e cs := h.ext ((Ext.refl w).alloc o)
theorem Blk.drewN (h : Blk w g e cs) (n : Nat) : Blk (w.drewN n) g e cs := h
theorem Blk.new (w : World) (e : TypeId) (cs : List Value) : Blk (w.alloc (.cells cs.toArray e)) w.heap.size e cs := heap_alloc_new w _
theorem Blk.rd (h : Blk w g e cs) : Rd w (some ⟨g, 0, none⟩) cs := fun j u hu => ⟨_, rfl, by
  have hadd : (⟨g, 0, none⟩ : Addr).add j = ⟨g, j, none⟩ := by unfold Addr.add; split <;> simp_all
  rw [hadd, h.cell j, hu]⟩
theorem Blk.own (h : Blk w g e cs) {B : Nat} (hB : B ≤ g) (hl : cs.length ≤ 1000000000) : Own B w e (.slice (some ⟨g, 0, none⟩) cs.length cs.length) cs :=
  ⟨by simp, .inr ⟨g, cs.length, cs.toArray, rfl, hB, h, Nat.le_refl _, by unfold maxLen; omega, by simp, by simp⟩⟩
end
theorem made_list (z : Value) (hz : z.cells = #[z]) (n : Nat) : madeCells z.cells n = (List.replicate n z).toArray := by
  rw [hz]
  apply Array.ext
  · simp [madeCells]
  · intro i h1 h2
    simp [madeCells, Nat.mod_one]
section
variable {P : Program} {w : World}
/-- make([]T, C) of elements of one cell -/
theorem wpList_makeN {ops : Array Oper} {rest : List Oper} {o : Oper} {a : Act} {Q : Exit → Act → World → Prop} (hg : o.guard = none) (l c : Operand) (t : TypeId) (hop : o.op = Op.makeSlice t l c)
    (e : TypeId) (i : TypeInfo) (z : Value) (bytes : Nat) (h1 : P.underlying t = some (.slice e)) (h2 : P.info? e = some i) (h3 : i.zero = some z) (h4 : i.size = 1) (h5 : i.bytes = bytes) (hzc : z.cells = #[z])
    {kl kc : IntKind} {C : Int} (hl : a.eval l = .int kl C) (hc : a.eval c = .int kc C) (hC : 0 ≤ C) (hC2 : C ≤ 1000000000) (hb : bytes ≤ 1000)
    (hK : ∀ w', Blk w' w.heap.size e (List.replicate C.toNat z) → Ext w w' → wpList P ops Q rest (a.put o.dst (.slice (some ⟨w.heap.size, 0, none⟩) C.toNat C.toNat)) w') : wpList P ops Q (o :: rest) a w := by
  refine wpList_plain hg fun K hK' => ?_
  have hbb : (i.bytes : Int) * C ≤ 281474976710656 := by
    rw [h5]
    have := Int.mul_le_mul_of_nonneg_right (show (bytes : Int) ≤ 1000 by omega) hC
    omega
  have hr := run_make (P := P) w t e i z h1 h2 h3 kl kc C C hC (Int.le_refl _) hbb (by omega)
  rw [h4, Nat.mul_one, made_list z hzc] at hr
  unfold Oper.wp execOp
  simp only [hop, hl, hc, Sem.run_bind, hr, Result.andThen_ok, Sem.run_pure]
  exact hK' _ _ (hK _ (Blk.new w e _) ((Ext.refl w).alloc _))
end
end Go.Gr
namespace Go.Gr
open Go.RowKit Go.Sort
set_option linter.unusedVariables false

/-- does it add memory? (all else only reads) -/
def isExt (o : Oper) : Bool :=
  match o.op with
  | .call { callee := .value _, .. } => true
  | .call { callee := .builtin .append, .. } => true
  | .alloc _ | .box _ _ | .buildSlice _ _ _ | .makeSlice _ _ _ | .makeMap _ _ | .makeInterface _ _ => true
  | _ => false
def isSel (o : Oper) : Bool := match o.op with | .select _ _ => true | _ => false

/-- in this order each reading operation comes as early as its edges allow, and what adds memory stands in one line -/
def okAll (ops : Array Oper) : Array Bool → List Nat → Bool
  | listed, [] => (Region.ready .any ops listed).isEmpty
  | listed, i :: rest =>
    match ops[i]? with
    | none => false
    | some o =>
      (if isExt o then Region.ready .any ops listed == [i]
       else (Region.ready .any ops listed).contains i &&
        (List.range ops.size).all fun j => j == i || listed.getD j true || (match ops[j]? with
          | some oj => !(oj.after.all fun e => !Region.binds .any e || e.on != i) || o.apart ops oj
          | none => true)) &&
      okAll ops (listed.setIfInBounds i true) rest
/-- w with whatever has been added to it -/
def Cls (w w' : World) : Prop := ∃ p : Regrown, w' = grow (redrawn w p.d) p.os
theorem cls_iff {w w' : World} : Cls w w' ↔ Ext w w' :=
  ⟨fun ⟨p, h⟩ => by subst h; exact below_regrown w p.d p.os, fun h => regrown_of_below h⟩

/-- what a reading operation yields: this value, in the world that it got -/
def rdUpon (w : World) (v : Value) : Result Next → Prop
  | .ok (.value u) w' => w' = w ∧ u = v
  | _ => False
def rdAt (P : Program) (o : Oper) (a : Act) (w : World) (v : Value) : Prop := rdUpon w v ((execOp a.eval o).run P w)
def rdOp (P : Program) (o : Oper) (a : Act) (C : World → Prop) (next : Act → Prop) : Prop := ∃ v, (∀ w, C w → rdAt P o a w v) ∧ next (a.put o.dst v)
theorem rd_run {P : Program} {o : Oper} {a : Act} {w : World} {v : Value} (h : rdAt P o a w v) : (execOp a.eval o).run P w = .ok (.value v) w := by
  unfold rdAt at h
  generalize (execOp a.eval o).run P w = r at *
  cases r with
  | halt x w' => exact h.elim
  | ok n w' =>
    cases n <;> simp only [rdUpon] at h
    obtain ⟨rfl, rfl⟩ := h; rfl
def wpM (P : Program) (ops : Array Oper) (Q : Exit → Act → World → Prop) : List Nat → Act → World → Prop
  | [], a, w => Q .normal a w
  | i :: rest, a, w =>
    match ops[i]? with
    | none => False
    | some o =>
      if Region.wanted o (yielded ops a.tmps) then
        (if isExt o then o.wp P a w (fun a' w' => Ext w w' ∧ wpM P ops Q rest a' w') Q else rdOp P o a (Cls w) (fun a' => wpM P ops Q rest a' w))
      else wpM P ops Q rest (a.put o.dst undef) w
section
variable {P : Program} {ops : Array Oper} {Q : Exit → Act → World → Prop}
theorem wpM_rd {i : Nat} {o : Oper} {rest : List Nat} {a : Act} {w : World} (ho : ops[i]? = some o) (hx : isExt o = false)
    (h : ∀ K : Act → Prop, (∀ a, wpM P ops Q rest a w → K a) → if Region.wanted o (yielded ops a.tmps) then rdOp P o a (Cls w) K else K (a.put o.dst undef)) : wpM P ops Q (i :: rest) a w := by
  have := h _ (fun _ h => h)
  unfold wpM
  simp only [ho, hx]
  exact this
theorem wpM_ext {i : Nat} {o : Oper} {rest : List Nat} {a : Act} {w : World} (ho : ops[i]? = some o) (hx : isExt o = true)
    (h : ∀ K : Act → World → Prop, (∀ a' w', Ext w w' → wpM P ops Q rest a' w' → K a' w') → if Region.wanted o (yielded ops a.tmps) then o.wp P a w K Q else K (a.put o.dst undef) w) : wpM P ops Q (i :: rest) a w := by
  have := h (fun a' w' => Ext w w' ∧ wpM P ops Q rest a' w') (fun _ _ h1 h2 => ⟨h1, h2⟩)
  unfold wpM
  simp only [ho, hx, if_true]
  split
  · rename_i hw; rw [if_pos hw] at this; exact this
  · rename_i hw; rw [if_neg hw] at this; exact this.2
theorem wpAnyH_mono {md : Region.Mode} {S S' : World → Prop} (hs : ∀ w, S w → S' w) : ∀ (fuel : Nat) (listed : Array Bool) (a : Act) (w : World), wpAnyH P md ops Q S fuel listed a w → wpAnyH P md ops Q S' fuel listed a w
  | 0, _, _, _, h => h
  | fuel + 1, _, _, _, h => ⟨h.1, fun i hi => wpOp_mono (fun a' w' h' => ⟨hs _ h'.1, wpAnyH_mono hs fuel _ a' w' h'.2⟩) (h.2 i hi)⟩
theorem run_mono (hsel : ∀ (j : Nat) (o : Oper) cs b, ops[j]? = some o → o.op ≠ .select cs b) (hQ : ∀ c a w, ¬ Q (.panic c) a w) :
    ∀ (perm : List Nat) (listed : Array Bool) (a : Act) (w : World), okAll ops listed perm = true → wpM P ops Q perm a w → wpAnyH P .any ops Q (Ext w) perm.length listed a w
  | [], listed, a, w, hok, h => by
    simp only [okAll, List.isEmpty_iff] at hok
    exact ⟨hok, h⟩
  | i :: rest, listed, a, w, hok, h => by
    unfold okAll at hok
    unfold wpM at h
    cases ho : ops[i]? with
    | none => rw [ho] at h; exact h.elim
    | some o =>
      simp only [ho] at hok h
      rw [Bool.and_eq_true] at hok
      obtain ⟨hok1, hok2⟩ := hok
      by_cases hx : isExt o = true
      · simp only [hx, if_true] at hok1 h
        have hr : Region.ready .any ops listed = [i] := by simpa using hok1
        refine wpAnyH_all hr (by simp) fun j hj => ?_
        obtain rfl : j = i := by simpa using hj
        refine wpOp_step ho fun K' hK => ?_
        split
        · rename_i hw
          rw [if_pos hw] at h
          have hm : ∀ a' w', (Ext w w' ∧ wpM P ops Q rest a' w') → K' a' w' := fun a' w' ⟨h1, h2⟩ =>
            hK _ _ ⟨h1, wpAnyH_mono (fun x hx => h1.trans hx) _ _ _ _ (run_mono hsel hQ rest _ a' w' hok2 h2)⟩
          exact Oper.wp_mono hm h
        · rename_i hw
          rw [if_neg hw] at h
          exact hK _ _ ⟨Ext.refl w, run_mono hsel hQ rest _ _ w hok2 h⟩
      · have hx' : isExt o = false := by simpa using hx
        simp only [hx', Bool.false_eq_true, if_false] at hok1 h
        rw [Bool.and_eq_true] at hok1
        obtain ⟨hin, hap⟩ := hok1
        have hmem : i ∈ Region.ready .any ops listed := by simpa using hin
        have hapart : ∀ j oj, ops[j]? = some oj → j ≠ i → listed.getD j true = false → (∀ e ∈ oj.after, Region.binds .any e = true → e.on ≠ i) → o.apart ops oj = true := by
          intro j oj hj hne hl hw
          have hjl : j < ops.size := (Array.getElem?_eq_some_iff.1 hj).1
          have h1 := List.all_eq_true.1 hap j (List.mem_range.2 hjl)
          simp only [hj, Bool.or_eq_true, beq_iff_eq] at h1
          rcases h1 with (h1 | h1) | h1 | h1
          · exact absurd h1 hne
          · rw [hl] at h1; cases h1
          · exfalso
            have : (oj.after.all fun e => !Region.binds .any e || e.on != i) = true := by
              rw [Array.all_eq_true_iff_forall_mem]
              intro e he
              by_cases hb : Region.binds .any e = true
              · have := hw e he hb; simp [this]
              · simp [hb]
            rw [this] at h1; cases h1
          · exact h1
        split at h
        · rename_i hw
          obtain ⟨v, hv, hn⟩ := h
          refine wpAnyH_first ho hsel (fun c a w h => (hQ _ _ _ h).elim) rest.length listed a w hapart hmem (.inl ⟨hw, fun w' hw' => rd_run (hv w' (cls_iff.2 hw'))⟩) (Ext.refl w) ?_
          exact run_mono hsel hQ rest _ _ w hok2 hn
        · rename_i hw
          refine wpAnyH_first (v := undef) ho hsel (fun c a w h => (hQ _ _ _ h).elim) rest.length listed a w hapart hmem (.inr ⟨by simpa using hw, rfl⟩) (Ext.refl w) ?_
          exact run_mono hsel hQ rest _ _ w hok2 h
theorem wpM_nil {a : Act} {w : World} (h : Q .normal a w) : wpM P ops (NoPanic Q) [] a w := NoPanic.normal h
/-- THE RULE: a region that draws its order, walked in the order 'perm'. -/
theorem wp_region_mono {id : Nat} {l : List Oper} {a : Act} {w : World} (perm : List Nat) (hm : P.follows .mixedOrders = true) (hs : (l.all fun o => !isSel o) = true) (hl : perm.length = l.toArray.size)
    (hok : okAll l.toArray (Array.replicate l.toArray.size false) perm = true) (h : wpM P l.toArray (NoPanic Q) perm a w.drew) : (Code.region id l.toArray true).wp P Q a w := by
  refine wp_region_noPanic (wp_region_held (S := Ext w.drew) hm ?_)
  rw [← hl] at *
  refine run_mono ?_ (fun c a w h => h) perm _ a _ hok h
  intro j o cs b hj he
  have hmem : o ∈ l := by
    rw [List.getElem?_toArray] at hj
    exact List.mem_of_getElem? hj
  have := List.all_eq_true.1 hs o hmem
  simp [isSel, he] at this
/-- the same behind a name that does not unfold: each tactic step asks for the goal's head, and an operation that is not wanted would let it run on to the end -/
structure WM (P : Program) (ops : Array Oper) (Q : Exit → Act → World → Prop) (l : List Nat) (a : Act) (w : World) : Prop where
  out : wpM P ops Q l a w
theorem wm_rd {i : Nat} {o : Oper} {rest : List Nat} {a : Act} {w : World} (ho : ops[i]? = some o) (hx : isExt o = false)
    (h : ∀ K : Act → Prop, (∀ a, WM P ops Q rest a w → K a) → if Region.wanted o (yielded ops a.tmps) then rdOp P o a (Cls w) K else K (a.put o.dst undef)) : WM P ops Q (i :: rest) a w :=
  ⟨wpM_rd ho hx fun K hK => h K fun a ha => hK a ha.out⟩
theorem wm_ext {i : Nat} {o : Oper} {rest : List Nat} {a : Act} {w : World} (ho : ops[i]? = some o) (hx : isExt o = true)
    (h : ∀ K : Act → World → Prop, (∀ a' w', Ext w w' → WM P ops Q rest a' w' → K a' w') → if Region.wanted o (yielded ops a.tmps) then o.wp P a w K Q else K (a.put o.dst undef) w) : WM P ops Q (i :: rest) a w :=
  ⟨wpM_ext ho hx fun K hK => h K fun a' w' h1 h2 => hK a' w' h1 h2.out⟩
theorem wm_nil {a : Act} {w : World} (h : Q .normal a w) : WM P ops (NoPanic Q) [] a w := ⟨wpM_nil h⟩
theorem wp_region_wm {id : Nat} {l : List Oper} {a : Act} {w : World} (perm : List Nat) (hm : P.follows .mixedOrders = true) (hs : (l.all fun o => !isSel o) = true) (hl : perm.length = l.toArray.size)
    (hok : okAll l.toArray (Array.replicate l.toArray.size false) perm = true) (h : WM P l.toArray (NoPanic Q) perm a w.drew) : (Code.region id l.toArray true).wp P Q a w :=
  wp_region_mono perm hm hs hl hok h.out
end
end Go.Gr
namespace Go.Gr
open Go.RowKit Go.Sort
set_option linter.unusedVariables false

/-- f operations of the head are still to come, whatever order is picked; S holds behind each of them; then the tail of g operations. -/
def wpAnyT (P : Program) (md : Region.Mode) (ops : Array Oper) (Q : Exit → Act → World → Prop) (n g : Nat) (S : World → Prop) : Nat → Array Bool → Act → World → Prop
  | 0, listed, a, w => (∀ j ∈ Region.ready md ops listed, n ≤ j) ∧ wpAny P md ops Q g listed a w
  | f + 1, listed, a, w =>
    Region.ready md ops listed ≠ [] ∧ ∀ i ∈ Region.ready md ops listed, i < n ∧ wpOp P ops Q i (fun a' w' => S w' ∧ wpAnyT P md ops Q n g S f (listed.setIfInBounds i true) a' w') a w
section
variable {P : Program} {ops : Array Oper} {Q : Exit → Act → World → Prop} {md : Region.Mode} {S : World → Prop} {n g : Nat}
theorem wpAny_of_T : ∀ (f : Nat) (listed : Array Bool) (a : Act) (w : World), wpAnyT P md ops Q n g S f listed a w → wpAny P md ops Q (f + g) listed a w
  | 0, _, _, _, h => by rw [Nat.zero_add]; exact h.2
  | f + 1, listed, a, w, h => by
    rw [show f + 1 + g = (f + g) + 1 by omega]
    exact ⟨fun h0 => absurd h0 h.1, fun i hi => wpOp_mono (fun a' w' h' => wpAny_of_T f _ a' w' h'.2) (h.2 i hi).2⟩
theorem wpAnyT_mono {S' : World → Prop} (hs : ∀ w, S w → S' w) : ∀ (f : Nat) (listed : Array Bool) (a : Act) (w : World), wpAnyT P md ops Q n g S f listed a w → wpAnyT P md ops Q n g S' f listed a w
  | 0, _, _, _, h => h
  | f + 1, _, _, _, h => ⟨h.1, fun i hi => ⟨(h.2 i hi).1, wpOp_mono (fun a' w' h' => ⟨hs _ h'.1, wpAnyT_mono hs f _ a' w' h'.2⟩) (h.2 i hi).2⟩⟩
theorem wpAnyT_first {i : Nat} {oi : Oper} {v : Value} (hi : ops[i]? = some oi) (hsel : ∀ (j : Nat) (o : Oper) cs b, ops[j]? = some o → o.op ≠ .select cs b)
    (hs : Region.sinkB md ops n = true) (hc : Region.chainB md ops n = true) (hn : n < ops.size) (hin : i < n)
    (hQ : ∀ c a w, Q (.panic c) (a.put oi.dst v) w → Q (.panic c) a w) :
    ∀ (f : Nat) (listed : Array Bool) (a : Act) (w : World), HeadInv md ops n listed →
      (∀ j oj, ops[j]? = some oj → j ≠ i → listed.getD j true = false → (∀ e ∈ oj.after, Region.binds md e = true → e.on ≠ i) → oi.apart ops oj = true) →
      i ∈ Region.ready md ops listed → YieldsIf P ops S oi v a → S w →
      wpAnyT P md ops Q n g S f (listed.setIfInBounds i true) (a.put oi.dst v) w → wpAnyT P md ops Q n g S (f + 1) listed a w := by
  intro f
  induction f with
  | zero =>
    intro listed a w inv _ hr hy hS H
    have hun := (mem_ready.1 hr).1
    refine ⟨fun h => (by rw [h] at hr; cases hr), fun j hj => ?_⟩
    have hjn : j < n := by
      rcases Nat.lt_or_ge j n with h | h
      · exact h
      · exact absurd hj (tail_waits hs hc hn inv _ i rfl hin hun j h)
    refine ⟨hjn, ?_⟩
    by_cases hji : j = i
    · subst hji; exact hy.wpOp hi hS ⟨hS, H⟩
    · have := H.1 j (ready_mono hj hji)
      omega
  | succ f ih =>
    intro listed a w inv hfree hr hy hS H
    have hun := (mem_ready.1 hr).1
    refine ⟨fun h => (by rw [h] at hr; cases hr), fun j hj => ?_⟩
    have hjn : j < n := by
      rcases Nat.lt_or_ge j n with h | h
      · exact h
      · exact absurd hj (tail_waits hs hc hn inv _ i rfl hin hun j h)
    refine ⟨hjn, ?_⟩
    by_cases hji : j = i
    · subst hji; exact hy.wpOp hi hS ⟨hS, H⟩
    · have h1 := (H.2 j (ready_mono hj hji)).2
      obtain ⟨hjun, oj, hoj, hall⟩ := mem_ready.1 hj
      have hnot : ∀ e ∈ oj.after, Region.binds md e = true → e.on ≠ i := fun e he hb heq => by
        have h1 := hall e he hb
        rw [heq, getD_both hun] at h1
        cases h1
      have h2 := wpOp_putIf hoj (hfree j oj hoj hji hjun hnot) (fun cs b => hsel i oi cs b hi) (fun cs b => hsel j oj cs b hoj) hQ hy h1
      have hfree' : ∀ k ok, ops[k]? = some ok → k ≠ i → (listed.setIfInBounds j true).getD k true = false →
          (∀ e ∈ ok.after, Region.binds md e = true → e.on ≠ i) → oi.apart ops ok = true := fun k ok hk hki hun hno => by
        refine hfree k ok hk hki ?_ hno
        by_cases hjk : j = k
        · subst hjk; exact hjun
        · rw [getD_set_ne true hjk] at hun; exact hun
      refine wpOp_mono (fun a' w' h3 => ⟨h3.2.1, ih (listed.setIfInBounds j true) a' w' (inv.set hj hjn) hfree' (ready_mono hr (Ne.symm hji)) h3.1 h3.2.1 ?_⟩) h2
      rw [Array.setIfInBounds_comm _ _ hji]
      exact h3.2.2
/-- the head in this order, each reading operation as early as its edges allow, what adds memory in one line; then the tail from n on, in one line -/
def okTail (ops : Array Oper) (n g : Nat) : Array Bool → List Nat → Bool
  | listed, [] => Region.seqB .any ops g n listed
  | listed, i :: rest =>
    match ops[i]? with
    | none => false
    | some o =>
      decide (i < n) && (if isExt o then Region.ready .any ops listed == [i]
       else (Region.ready .any ops listed).contains i &&
        (List.range ops.size).all fun j => j == i || listed.getD j true || (match ops[j]? with
          | some oj => !(oj.after.all fun e => !Region.binds .any e || e.on != i) || o.apart ops oj
          | none => true)) &&
      okTail ops n g (listed.setIfInBounds i true) rest
def wpT (P : Program) (ops : Array Oper) (Q : Exit → Act → World → Prop) (tail : List Oper) : List Nat → Act → World → Prop
  | [], a, w => wpList P ops Q tail a w
  | i :: rest, a, w =>
    match ops[i]? with
    | none => False
    | some o =>
      if Region.wanted o (yielded ops a.tmps) then
        (if isExt o then o.wp P a w (fun a' w' => Ext w w' ∧ wpT P ops Q tail rest a' w') Q else rdOp P o a (Cls w) (fun a' => wpT P ops Q tail rest a' w))
      else wpT P ops Q tail rest (a.put o.dst undef) w
theorem run_tail {tail : List Oper} (hsel : ∀ (j : Nat) (o : Oper) cs b, ops[j]? = some o → o.op ≠ .select cs b) (hQ : ∀ c a w, ¬ Q (.panic c) a w)
    (hs : Region.sinkB .any ops n = true) (hc : Region.chainB .any ops n = true) (hn : n < ops.size) (htl : ∀ j, tail[j]? = ops[n + j]?) (hg : tail.length = g) :
    ∀ (perm : List Nat) (listed : Array Bool) (a : Act) (w : World), HeadInv .any ops n listed → okTail ops n g listed perm = true → wpT P ops Q tail perm a w → wpAnyT P .any ops Q n g (Ext w) perm.length listed a w
  | [], listed, a, w, inv, hok, h => by
    simp only [okTail] at hok
    have := wpAny_of_seq (P := P) (md := .any) (ops := ops) (Q' := Q) tail n listed a w htl (by rw [hg]; exact hok) h
    rw [hg] at this
    exact ⟨seqB_ready hok, this⟩
  | i :: rest, listed, a, w, inv, hok, h => by
    unfold okTail at hok
    unfold wpT at h
    cases ho : ops[i]? with
    | none => rw [ho] at h; exact h.elim
    | some o =>
      simp only [ho] at hok h
      rw [Bool.and_eq_true, Bool.and_eq_true, decide_eq_true_eq] at hok
      obtain ⟨⟨hin, hok1⟩, hok2⟩ := hok
      by_cases hx : isExt o = true
      · simp only [hx, if_true] at hok1 h
        have hr : Region.ready .any ops listed = [i] := by simpa using hok1
        have hir : i ∈ Region.ready .any ops listed := by rw [hr]; simp
        refine ⟨by rw [hr]; simp, fun j hj => ?_⟩
        obtain rfl : j = i := by rw [hr] at hj; simpa using hj
        refine ⟨hin, ?_⟩
        refine wpOp_step ho fun K' hK => ?_
        split
        · rename_i hw
          rw [if_pos hw] at h
          have hm : ∀ a' w', (Ext w w' ∧ wpT P ops Q tail rest a' w') → K' a' w' := fun a' w' ⟨h1, h2⟩ =>
            hK _ _ ⟨h1, wpAnyT_mono (fun x hx => h1.trans hx) _ _ _ _ (run_tail hsel hQ hs hc hn htl hg rest _ a' w' (inv.set hir hin) hok2 h2)⟩
          exact Oper.wp_mono hm h
        · rename_i hw
          rw [if_neg hw] at h
          exact hK _ _ ⟨Ext.refl w, run_tail hsel hQ hs hc hn htl hg rest _ _ w (inv.set hir hin) hok2 h⟩
      · have hx' : isExt o = false := by simpa using hx
        simp only [hx', Bool.false_eq_true, if_false] at hok1 h
        rw [Bool.and_eq_true] at hok1
        obtain ⟨hinr, hap⟩ := hok1
        have hmem : i ∈ Region.ready .any ops listed := by simpa using hinr
        have hapart : ∀ j oj, ops[j]? = some oj → j ≠ i → listed.getD j true = false → (∀ e ∈ oj.after, Region.binds .any e = true → e.on ≠ i) → o.apart ops oj = true := by
          intro j oj hj hne hl hw
          have hjl : j < ops.size := (Array.getElem?_eq_some_iff.1 hj).1
          have h1 := List.all_eq_true.1 hap j (List.mem_range.2 hjl)
          simp only [hj, Bool.or_eq_true, beq_iff_eq] at h1
          rcases h1 with (h1 | h1) | h1 | h1
          · exact absurd h1 hne
          · rw [hl] at h1; cases h1
          · exfalso
            have : (oj.after.all fun e => !Region.binds .any e || e.on != i) = true := by
              rw [Array.all_eq_true_iff_forall_mem]
              intro e he
              by_cases hb : Region.binds .any e = true
              · have := hw e he hb; simp [this]
              · simp [hb]
            rw [this] at h1; cases h1
          · exact h1
        split at h
        · rename_i hw
          obtain ⟨v, hv, hnx⟩ := h
          refine wpAnyT_first ho hsel hs hc hn hin (fun c a w h => (hQ _ _ _ h).elim) rest.length listed a w inv hapart hmem (.inl ⟨hw, fun w' hw' => rd_run (hv w' (cls_iff.2 hw'))⟩) (Ext.refl w) ?_
          exact run_tail hsel hQ hs hc hn htl hg rest _ _ w (inv.set hmem hin) hok2 hnx
        · rename_i hw
          refine wpAnyT_first (v := undef) ho hsel hs hc hn hin (fun c a w h => (hQ _ _ _ h).elim) rest.length listed a w inv hapart hmem (.inr ⟨by simpa using hw, rfl⟩) (Ext.refl w) ?_
          exact run_tail hsel hQ hs hc hn htl hg rest _ _ w (inv.set hmem hin) hok2 h
/-- the same behind a name that does not unfold -/
structure WT (P : Program) (ops : Array Oper) (Q : Exit → Act → World → Prop) (tail : List Oper) (l : List Nat) (a : Act) (w : World) : Prop where
  out : wpT P ops Q tail l a w
theorem wt_rd {tail : List Oper} {i : Nat} {o : Oper} {rest : List Nat} {a : Act} {w : World} (ho : ops[i]? = some o) (hx : isExt o = false)
    (h : ∀ K : Act → Prop, (∀ a, WT P ops Q tail rest a w → K a) → if Region.wanted o (yielded ops a.tmps) then rdOp P o a (Cls w) K else K (a.put o.dst undef)) : WT P ops Q tail (i :: rest) a w := by
  have := h (fun a => wpT P ops Q tail rest a w) (fun _ h => h.out)
  refine ⟨?_⟩
  unfold wpT
  simp only [ho, hx]
  exact this
theorem wt_ext {tail : List Oper} {i : Nat} {o : Oper} {rest : List Nat} {a : Act} {w : World} (ho : ops[i]? = some o) (hx : isExt o = true)
    (h : ∀ K : Act → World → Prop, (∀ a' w', Ext w w' → WT P ops Q tail rest a' w' → K a' w') → if Region.wanted o (yielded ops a.tmps) then o.wp P a w K Q else K (a.put o.dst undef) w) : WT P ops Q tail (i :: rest) a w := by
  have := h (fun a' w' => Ext w w' ∧ wpT P ops Q tail rest a' w') (fun _ _ h1 h2 => ⟨h1, h2.out⟩)
  refine ⟨?_⟩
  unfold wpT
  simp only [ho, hx, if_true]
  split
  · rename_i hw; rw [if_pos hw] at this; exact this
  · rename_i hw; rw [if_neg hw] at this; exact this.2
theorem wt_nil {tail : List Oper} {a : Act} {w : World} (h : wpList P ops Q tail a w) : WT P ops Q tail [] a w := ⟨h⟩
/-- THE RULE: n operations of the head in the order 'perm', then the rest in the order of the text. -/
theorem wp_region_tail {id : Nat} {l : List Oper} {a : Act} {w : World} (n : Nat) (perm : List Nat) (hm : P.follows .mixedOrders = true) (hs : (l.all fun o => !isSel o) = true)
    (hok : (decide (perm.length = n) && decide (n < l.toArray.size) && Region.sinkB .any l.toArray n && Region.chainB .any l.toArray n && okTail l.toArray n (l.toArray.size - n) (Array.replicate l.toArray.size false) perm) = true)
    (h : WT P l.toArray (NoPanic Q) (l.drop n) perm a w.drew) : (Code.region id l.toArray true).wp P Q a w := by
  simp only [Bool.and_eq_true, decide_eq_true_eq] at hok
  obtain ⟨⟨⟨⟨hlen, hn⟩, hsk⟩, hc⟩, hk⟩ := hok
  refine wp_region_noPanic (wp_region_any hm ?_)
  have inv0 : HeadInv .any l.toArray n (Array.replicate l.toArray.size false) :=
    ⟨by simp, fun j oj _ hl => (by rw [getD_replicate_false] at hl; cases hl), fun t _ ht => getD_in (by simpa using ht) (getD_replicate_false _ _)⟩
  have hsel : ∀ (j : Nat) (o : Oper) cs b, l.toArray[j]? = some o → o.op ≠ .select cs b := by
    intro j o cs b hj he
    have hmem : o ∈ l := by
      rw [List.getElem?_toArray] at hj
      exact List.mem_of_getElem? hj
    have := List.all_eq_true.1 hs o hmem
    simp [isSel, he] at this
  have H := run_tail (tail := l.drop n) (g := l.toArray.size - n) hsel (fun c a w h => h) hsk hc hn (fun j => by simp [List.getElem?_drop]) (by simp) perm _ a w.drew inv0 hk h.out
  have := wpAny_of_T _ _ _ _ H
  rw [hlen, show n + (l.toArray.size - n) = l.toArray.size by omega] at this
  exact this
end
theorem Blk.new' {w : World} (e : TypeId) (cs : List Value) {g : Nat} (h : w.heap.size = g) : Blk (w.alloc (.cells cs.toArray e)) g e cs := by subst h; exact Blk.new w e cs
/-- a cell of a block, in whatever world has grown out of this one (behind the draw of a region) -/
theorem Blk.cls {w : World} {g : Nat} {e : TypeId} {cs : List Value} (h : Blk w g e cs) (i : Nat) {u : Value} (hu : cs[i]? = some u) (p : Regrown) : (Sort.grow (redrawn w.drew p.d) p.os).cell? ⟨g, i, none⟩ = some u :=
  (((show Blk w.drew g e cs from h).ext (below_regrown w.drew p.d p.os)).cell i).trans hu
theorem Blk.drew {w : World} {g : Nat} {e : TypeId} {cs : List Value} (h : Blk w g e cs) : Blk w.drew g e cs := h
theorem Rd.drew {w : World} {A : Option Addr} {xs : List Value} (h : Rd w A xs) : Rd w.drew A xs := h
theorem Rd.cls {w : World} {ad : Addr} {xs : List Value} (h : Rd w (some ad) xs) (i : Nat) {u : Value} (hu : xs[i]? = some u) (p : Regrown) : (Sort.grow (redrawn w.drew p.d) p.os).cell? (ad.add i) = some u := by
  obtain ⟨ad', e, hc⟩ := (h.drew.ext (below_regrown w.drew p.d p.os)) i u hu
  cases e; exact hc
theorem add0 (b i : Nat) : (⟨b, 0, none⟩ : Addr).add i = ⟨b, i, none⟩ := by unfold Addr.add; split <;> simp_all
theorem Rd.cls0 {w : World} {b : Nat} {xs : List Value} (h : Rd w (some ⟨b, 0, none⟩) xs) (i : Nat) {u : Value} (hu : xs[i]? = some u) (p : Regrown) : (Sort.grow (redrawn w.drew p.d) p.os).cell? ⟨b, i, none⟩ = some u := by
  have := h.cls i hu p
  rwa [add0] at this
theorem Rd.cell0 {w : World} {b : Nat} {xs : List Value} (h : Rd w (some ⟨b, 0, none⟩) xs) (i : Nat) {u : Value} (hu : xs[i]? = some u) : w.cell? ⟨b, i, none⟩ = some u := by
  obtain ⟨ad, e, hc⟩ := h i u hu
  cases e
  rwa [add0] at hc
section
variable {P : Program}
theorem Blk.setRow {w : World} {g : Nat} {e : TypeId} {old : List Value} (h : Blk w g e old) (cs : List Value) : Blk (w.setRow g cs.toArray) g e cs := setRow_heap w g _ cs.toArray e _ h
theorem Blk.rowFar {w : World} {g g' : Nat} {e : TypeId} {cs : List Value} (h : Blk w g e cs) (hne : g ≠ g') (C : Array Value) : Blk (w.setRow g' C) g e cs := (setRow_other w g' g C hne).trans h
theorem Below.setRow {B : Nat} {a w : World} (h : Below B a w) {g : Nat} (hg : B ≤ g) (C : Array Value) : Below B a (w.setRow g C) :=
  h.trans ⟨rfl, rfl, rfl, by simp, fun k hk => setRow_other w g k C (by omega)⟩
/-- a whole array or struct out of a block -/
theorem wpList_loadB {ops : Array Oper} {rest : List Oper} {o : Oper} {a : Act} {w : World} {Q : Exit → Act → World → Prop} (hgd : o.guard = none) (ty : TypeId) (x : Operand) (ho : o.op = .load ty x)
    {g : Nat} {t : TypeId} {cs : List Value} (hB : Blk w g t cs) (hx : a.eval x = .pointer (some ⟨g, 0, none⟩)) (d : TypeDesc)
    (hu : P.underlying ty = some d) (hd : (match d with | .struct _ | .array _ _ => true | _ => false) = true) (hi : (P.info? ty).map (·.size) = some cs.length)
    (h : wpList P ops Q rest (a.put o.dst (.agg cs.toArray)) w) : wpList P ops Q (o :: rest) a w :=
  wpList_load_row hgd ty x ho g hx t cs.toArray (0, 0) d hB hu hd (by simpa using hi) h
/-- a whole array or struct into a block -/
theorem wpList_storeB {ops : Array Oper} {rest : List Oper} {o : Oper} {a : Act} {w : World} {Q : Exit → Act → World → Prop} (hgd : o.guard = none) (ty : TypeId) (x y : Operand) (ho : o.op = .store ty x y)
    {g : Nat} {t : TypeId} {old cs : List Value} (hB : Blk w g t old) (hx : a.eval x = .pointer (some ⟨g, 0, none⟩)) (hy : a.eval y = .agg cs.toArray)
    (hi : (P.info? ty).map (·.size) = some cs.length) (hl : old.length = cs.length) (h1 : ∀ v ∈ cs, v.oneCell' = true)
    (h : wpList P ops Q rest (a.put o.dst undef) (w.setRow g cs.toArray)) : wpList P ops Q (o :: rest) a w :=
  wpList_store_row hgd ty x y ho g cs.toArray hx hy t old.toArray hB (by simpa using hi) (by simpa using hl) (Array.all_eq_true_iff_forall_mem.2 (fun v hv => h1 v (by simpa using hv))) h
theorem run_index_agg {w : World} {t e : TypeId} {n : Nat} {ke : IntKind} (h : P.underlying t = some (.array n e)) (he : P.underlying e = some (.int ke)) (hi : (P.info? e).map (·.size) = some 1)
    (cs : Array Value) (k : IntKind) (i : Nat) (hn : i < n) {u : Value} (hu : cs[i]? = some u) : (Instr.index t (.agg cs) (.int k (i : Int))).run P w = .ok u w := by
  cases hq : P.info? e with
  | none => simp [hq] at hi
  | some ie =>
    have hs : ie.size = 1 := by simpa [hq] using hi
    have hb : (0 : Int) ≤ i ∧ (i : Int) < n := by omega
    simp [Instr.index, asIntOf, run_underlying h, run_underlying he, hb, sizeOf, typeInfo, hq, hs, part, isAgg, hu]
    omega
end
end Go.Gr
namespace Go.Gr
open Go.RowKit Go.Sort
set_option linter.unusedVariables false
section
variable {P : Program}
theorem Rd.range {w : World} {b : Nat} {cs : List Value} (h : Rd w (some ⟨b, 0, none⟩) cs) : w.rangeAt b 0 cs := fun j v hv => by
  rw [Nat.zero_add]; exact h.cell0 j hv
/-- a whole array or struct out of where it lies -/
theorem wpList_loadR {ops : Array Oper} {rest : List Oper} {o : Oper} {a : Act} {w : World} {Q : Exit → Act → World → Prop} (hgd : o.guard = none) (ty : TypeId) (x : Operand) (ho : o.op = .load ty x)
    {g : Nat} {cs : List Value} (hr : Rd w (some ⟨g, 0, none⟩) cs) (hx : a.eval x = .pointer (some ⟨g, 0, none⟩)) (d : TypeDesc)
    (hu : P.underlying ty = some d) (hd : d.isRow = true) (hi : (P.info? ty).map (·.size) = some cs.length)
    (h : wpList P ops Q rest (a.put o.dst (.agg cs.toArray)) w) : wpList P ops Q (o :: rest) a w :=
  wpList_load_mid hgd ty x ho g 0 hx cs d hr.range hu hd hi h
theorem Blk.range {w : World} {g : Nat} {e : TypeId} {cs : List Value} (h : Blk w g e cs) : w.rangeAt g 0 cs := fun j v hv => by
  rw [Nat.zero_add]; exact (h.cell j).trans hv
/-- a reading operation of a region: a whole array or struct out of a block -/
theorem rdOp_loadB {o : Oper} {a : Act} {w : World} {next : Act → Prop} (ty : TypeId) (x : Operand) (ho : o.op = .load ty x)
    {g : Nat} {t : TypeId} {cs : List Value} (hB : Blk w g t cs) (hx : a.eval x = .pointer (some ⟨g, 0, none⟩)) (d : TypeDesc)
    (hu : P.underlying ty = some d) (hd : d.isRow = true) (hi : (P.info? ty).map (·.size) = some cs.length)
    (h : next (a.put o.dst (.agg cs.toArray))) : rdOp P o a (Cls w) next := by
  refine ⟨_, fun w' hw' => ?_, h⟩
  have hr := (hB.ext (cls_iff.1 hw')).range
  unfold rdAt execOp
  simp only [ho, hx, Instr.loadAt, Instr.sureAddr, Sem.run_bind, Sem.run_pure, Result.andThen_ok, run_loadVar_mid w' g 0 ty cs d hr hu hd hi]
  exact ⟨rfl, rfl⟩
theorem wt_loadB {ops : Array Oper} {Q : Exit → Act → World → Prop} {tail : List Oper} {i : Nat} {o : Oper} {rest : List Nat} {a : Act} {w : World} (hi : ops[i]? = some o) (hgd : o.guard = none) (ty : TypeId) (x : Operand) (ho : o.op = .load ty x)
    {g : Nat} {t : TypeId} {cs : List Value} (hB : Blk w g t cs) (hx : a.eval x = .pointer (some ⟨g, 0, none⟩)) (d : TypeDesc)
    (hu : P.underlying ty = some d) (hd : d.isRow = true) (hs : (P.info? ty).map (·.size) = some cs.length)
    (h : WT P ops Q tail rest (a.put o.dst (.agg cs.toArray)) w) : WT P ops Q tail (i :: rest) a w := by
  refine wt_rd hi (by simp [isExt, ho]) fun K hK => ?_
  rw [if_pos (by simp [Region.wanted, hgd])]
  exact rdOp_loadB ty x ho hB hx d hu hd hs (hK _ h)
theorem wm_loadB {ops : Array Oper} {Q : Exit → Act → World → Prop} {i : Nat} {o : Oper} {rest : List Nat} {a : Act} {w : World} (hi : ops[i]? = some o) (hgd : o.guard = none) (ty : TypeId) (x : Operand) (ho : o.op = .load ty x)
    {g : Nat} {t : TypeId} {cs : List Value} (hB : Blk w g t cs) (hx : a.eval x = .pointer (some ⟨g, 0, none⟩)) (d : TypeDesc)
    (hu : P.underlying ty = some d) (hd : d.isRow = true) (hs : (P.info? ty).map (·.size) = some cs.length)
    (h : WM P ops Q rest (a.put o.dst (.agg cs.toArray)) w) : WM P ops Q (i :: rest) a w := by
  refine wm_rd hi (by simp [isExt, ho]) fun K hK => ?_
  rw [if_pos (by simp [Region.wanted, hgd])]
  exact rdOp_loadB ty x ho hB hx d hu hd hs (hK _ h)
end
end Go.Gr
namespace Go.Gr
open Go.RowKit Go.Sort
set_option linter.unusedVariables false
/-- w' is w but for block g, and for more memory -/
def Upd (g : Nat) (w w' : World) : Prop := w.grownBy w' (some g)
section
variable {g : Nat} {a b c w w' : World}
theorem Upd.refl (g : Nat) (w : World) : Upd g w w := World.grownBy.refl w _
theorem Upd.of (h : Ext a b) : Upd g a b := ⟨h.os, h.tape, h.output, h.size, fun i hi _ => h.block i hi⟩
theorem Upd.trans (h : Upd g a b) (k : Upd g b c) : Upd g a c :=
  ⟨k.os.trans h.os, k.tape.trans h.tape, k.output.trans h.output, Nat.le_trans h.size k.size, fun i hi hne => (k.block i (Nat.lt_of_lt_of_le hi h.size) hne).trans (h.block i hi hne)⟩
theorem Upd.ext (h : Upd g a b) (k : Ext b c) : Upd g a c := h.trans (.of k)
theorem Upd.drew (h : Upd g a b) : Upd g a b.drew := h.ext ((Ext.refl _).drew)
theorem Upd.row (h : Upd g a b) (C : Array Value) : Upd g a (b.setRow g C) :=
  h.trans ⟨rfl, rfl, rfl, by simp, fun k hk hne => setRow_other b g k C (fun e => hne (by rw [e]))⟩
theorem Upd.cell (h : Upd g a b) (i : Nat) (u : Value) : Upd g a (b.setCell ⟨g, i, none⟩ u) :=
  h.trans ⟨rfl, rfl, rfl, by simp [World.setCell], fun k hk hne => Below.heap_setCell b _ u k (fun e => hne (by rw [e]))⟩
/-- a block from B on: below B all is as it was -/
theorem Upd.below (h : Upd g a b) {B : Nat} (hB : B ≤ g) (hs : B ≤ a.heap.size) : Below B a b :=
  ⟨h.os, h.tape, h.output, h.size, fun k hk => h.block k (Nat.lt_of_lt_of_le hk hs) (fun e => by cases e; omega)⟩
theorem Rd.upd {A : Option Addr} {xs : List Value} (h : Rd a A xs) (k : Upd g a b) (hne : ∀ ad, A = some ad → ad.block ≠ g) : Rd b A xs := fun j u hu => by
  obtain ⟨ad, e, hc⟩ := h j u hu
  refine ⟨ad, e, ?_⟩
  have hl := cell_lt hc
  rw [add_block] at hl
  have : b.heap[(ad.add j).block]? = a.heap[(ad.add j).block]? := by
    rw [add_block]
    exact k.block _ hl (fun e' => hne ad e (by cases e'; rfl))
  exact (World.cell?_of_block this).trans hc
theorem Blk.upd {g' : Nat} {e : TypeId} {cs : List Value} (h : Blk a g' e cs) (k : Upd g a b) (hne : g' ≠ g) : Blk b g' e cs :=
  (k.block g' h.lt (fun e' => hne (by cases e'; rfl))).trans h
theorem Own.upd {B : Nat} {e : TypeId} {v : Value} {xs : List Value} (h : Own B a e v xs) (k : Upd g a b) (hg : g < B) : Own B b e v xs := by
  refine ⟨h.1, ?_⟩
  rcases h.2 with h0 | ⟨g', cap, cur, rfl, hb, hh, r⟩
  · exact .inl h0
  · refine .inr ⟨g', cap, cur, rfl, hb, ?_, r⟩
    have hlt : g' < a.heap.size := by
      rcases Nat.lt_or_ge g' a.heap.size with h3 | h3
      · exact h3
      · rw [Array.getElem?_eq_none h3] at hh; cases hh
    rw [k.block g' hlt (fun e' => by cases e'; omega)]; exact hh
end
section
variable {P : Program} {w : World}
/-- copy into a block: from 'off' on it holds what was read -/
theorem wpList_copyB {ops : Array Oper} {rest : List Oper} {o : Oper} {a : Act} {Q : Exit → Act → World → Prop} (hgd : o.guard = none) (d s : Operand) (dT sT : TypeId)
    (ho : o.op = .call { callee := .builtin .copy, args := #[d, s], argTypes := #[dT, sT] }) (elem : TypeId) (hu : P.underlying dT = some (.slice elem)) (hsz : (P.info? elem).map (·.size) = some 1)
    {A : Option Addr} {off dLen dCap sLen sCap : Nat} {g : Nat} {t : TypeId} {cur src : List Value} (hd : a.eval d = .slice (some ⟨g, off, none⟩) dLen dCap) (hs : a.eval s = .slice A sLen sCap)
    (hB : Blk w g t cur) (hr : Rd w A src) (hl : src.length = sLen) (n : Nat) (hn : n = Nat.min sLen dLen) (hfit : off + n ≤ cur.length) (h1 : ∀ v ∈ src, v.oneCell' = true)
    (h : wpList P ops Q rest (a.put o.dst (.int .i64 n)) (w.setRow g (splice cur off (src.take n)).toArray)) : wpList P ops Q (o :: rest) a w := by
  have hnl : n ≤ sLen := by rw [hn]; exact Nat.min_le_left _ _
  have hlen : (src.take n).length = n := by rw [List.length_take]; omega
  by_cases h0 : n = 0
  · subst h0
    have e1 : splice cur off (src.take 0) = cur := by simp [splice]
    rw [e1, setRow_self w g cur.toArray t (0, 0) hB] at h
    exact wpList_copy_nothing hgd d s dT sT ho elem hu hsz _ _ dLen dCap sLen sCap hd hs hn.symm h
  · have hsome : ∃ ad, A = some ad := by
      obtain ⟨u, hu⟩ : ∃ u, src[0]? = some u := ⟨src[0]'(by omega), List.getElem?_eq_getElem (by omega)⟩
      obtain ⟨ad, e, _⟩ := hr 0 u hu
      exact ⟨ad, e⟩
    obtain ⟨ad, rfl⟩ := hsome
    have := wpList_copy_own (P := P) (w := w) (ops := ops) (rest := rest) (o := o) (a := a) (Q := Q) hgd d s dT sT ho elem hu hsz g off dLen dCap ad sLen sCap hd hs cur.toArray t hB (src.take n) (by rw [hlen]; exact hn)
      (fun j v hv => by
        have hv' : src[j]? = some v := by
          rw [List.getElem?_take] at hv
          split at hv
          · exact hv
          · cases hv
        obtain ⟨ad', e, hc⟩ := hr j v hv'
        cases e; exact hc) (by rw [hlen]; simpa using hfit) (fun v hv => h1 v (List.mem_of_mem_take hv))
    refine this ?_
    rw [hlen]
    have e2 : (cur.toArray.toList.take off ++ (src.take n ++ cur.toArray.toList.drop (off + n))).toArray = (splice cur off (src.take n)).toArray := by simp [splice, hlen]
    rw [e2]
    exact h
theorem splice_set (cs : List Value) (o : Nat) (v : Value) (r : List Value) (h : o + (r.length + 1) ≤ cs.length) : splice (cs.set o v) (o + 1) r = splice cs o (v :: r) := by
  have := list_seg_step cs o v r h
  simp only [splice, List.length_cons]
  simpa using this
theorem Blk.setCells {g : Nat} {e : TypeId} : ∀ (vs : List Value) (o : Nat) (w : World) (cs : List Value), Blk w g e cs → o + vs.length ≤ cs.length → Blk (w.setCells g o vs) g e (splice cs o vs)
  | [], o, w, cs, h, _ => by simpa [splice, World.setCells] using h
  | v :: r, o, w, cs, h, hl => by
    have := Blk.setCells r (o + 1) (w.setCell ⟨g, o, none⟩ v) (cs.set o v) (h.set o v) (by simp at hl ⊢; omega)
    rw [splice_set cs o v r (by simp at hl; omega)] at this
    exact this
theorem Upd.cells {g : Nat} {a : World} : ∀ (vs : List Value) (o : Nat) (b : World), Upd g a b → Upd g a (b.setCells g o vs)
  | [], o, b, h => h
  | v :: r, o, b, h => Upd.cells r (o + 1) _ (h.cell o v)
theorem Blk.mid {w : World} {g : Nat} {e : TypeId} {whole cs : List Value} (h : Blk w g e whole) (o : Nat) (hm : ∀ j v, cs[j]? = some v → whole[o + j]? = some v) : w.rangeAt g o cs := fun j v hv => (h.cell (o + j)).trans (hm j v hv)
theorem Blk.there {w : World} {g : Nat} {e : TypeId} {whole : List Value} (h : Blk w g e whole) (o n : Nat) (hn : o + n ≤ whole.length) : w.there g o n := fun j hj =>
  ⟨by rw [h.cell (o + j), List.getElem?_eq_getElem (by omega)]; rfl, h.free (o + j)⟩
theorem rdOp_loadM {o : Oper} {a : Act} {w : World} {next : Act → Prop} (ty : TypeId) (x : Operand) (ho : o.op = .load ty x)
    {g off : Nat} {t : TypeId} {whole cs : List Value} (hB : Blk w g t whole) (hm : ∀ j v, cs[j]? = some v → whole[off + j]? = some v) (hx : a.eval x = .pointer (some ⟨g, off, none⟩)) (d : TypeDesc)
    (hu : P.underlying ty = some d) (hd : d.isRow = true) (hi : (P.info? ty).map (·.size) = some cs.length)
    (h : next (a.put o.dst (.agg cs.toArray))) : rdOp P o a (Cls w) next := by
  refine ⟨_, fun w' hw' => ?_, h⟩
  have hr := (hB.ext (cls_iff.1 hw')).mid off hm
  unfold rdAt execOp
  simp only [ho, hx, Instr.loadAt, Instr.sureAddr, Sem.run_bind, Sem.run_pure, Result.andThen_ok, run_loadVar_mid w' g off ty cs d hr hu hd hi]
  exact ⟨rfl, rfl⟩
theorem wt_loadM {ops : Array Oper} {Q : Exit → Act → World → Prop} {tail : List Oper} {i : Nat} {o : Oper} {rest : List Nat} {a : Act} {w : World} (hi : ops[i]? = some o) (hgd : o.guard = none) (ty : TypeId) (x : Operand) (ho : o.op = .load ty x)
    {g off : Nat} {t : TypeId} {whole cs : List Value} (hB : Blk w g t whole) (hm : ∀ j v, cs[j]? = some v → whole[off + j]? = some v) (hx : a.eval x = .pointer (some ⟨g, off, none⟩)) (d : TypeDesc)
    (hu : P.underlying ty = some d) (hd : d.isRow = true) (hs : (P.info? ty).map (·.size) = some cs.length)
    (h : WT P ops Q tail rest (a.put o.dst (.agg cs.toArray)) w) : WT P ops Q tail (i :: rest) a w := by
  refine wt_rd hi (by simp [isExt, ho]) fun K hK => ?_
  rw [if_pos (by simp [Region.wanted, hgd])]
  exact rdOp_loadM ty x ho hB hm hx d hu hd hs (hK _ h)
theorem wpList_loadM {ops : Array Oper} {rest : List Oper} {o : Oper} {a : Act} {Q : Exit → Act → World → Prop} (hgd : o.guard = none) (ty : TypeId) (x : Operand) (ho : o.op = .load ty x)
    {g off : Nat} {t : TypeId} {whole cs : List Value} (hB : Blk w g t whole) (hm : ∀ j v, cs[j]? = some v → whole[off + j]? = some v) (hx : a.eval x = .pointer (some ⟨g, off, none⟩)) (d : TypeDesc)
    (hu : P.underlying ty = some d) (hd : d.isRow = true) (hi : (P.info? ty).map (·.size) = some cs.length)
    (h : wpList P ops Q rest (a.put o.dst (.agg cs.toArray)) w) : wpList P ops Q (o :: rest) a w :=
  wpList_load_mid hgd ty x ho g off hx cs d (hB.mid off hm) hu hd hi h
theorem wpList_storeM {ops : Array Oper} {rest : List Oper} {o : Oper} {a : Act} {Q : Exit → Act → World → Prop} (hgd : o.guard = none) (ty : TypeId) (x y : Operand) (ho : o.op = .store ty x y)
    {g off : Nat} {t : TypeId} {whole cs : List Value} (hB : Blk w g t whole) (hx : a.eval x = .pointer (some ⟨g, off, none⟩)) (hy : a.eval y = .agg cs.toArray)
    (hi : (P.info? ty).map (·.size) = some cs.length) (hl : off + cs.length ≤ whole.length) (h1 : ∀ v ∈ cs, v.oneCell' = true)
    (h : wpList P ops Q rest (a.put o.dst undef) (w.setCells g off cs)) : wpList P ops Q (o :: rest) a w := by
  refine wpList_store_mid hgd ty x y ho g off cs.toArray hx hy (by simpa using hB.there off cs.length hl) (by simpa using hi) (all_oneCell_toArray h1) ?_
  simpa using h
end
end Go.Gr
namespace Go.Gr
open Go.RowKit
set_option linter.unusedVariables false
section
variable {P : Program}
/-- a whole array or struct into a block: the walk goes on in a world with a name -/
theorem wpList_storeH {ops : Array Oper} {rest : List Oper} {o : Oper} {a : Act} {w : World} {Q : Exit → Act → World → Prop} (hgd : o.guard = none) (ty : TypeId) (x y : Operand) (ho : o.op = .store ty x y)
    {g : Nat} {t : TypeId} {old cs : List Value} (hB : Blk w g t old) (hx : a.eval x = .pointer (some ⟨g, 0, none⟩)) (hy : a.eval y = .agg cs.toArray)
    (hi : (P.info? ty).map (·.size) = some cs.length) (hl : old.length = cs.length) (h1 : ∀ v ∈ cs, v.oneCell' = true)
    (h : ∀ w', Blk w' g t cs → Upd g w w' → wpList P ops Q rest (a.put o.dst undef) w') : wpList P ops Q (o :: rest) a w :=
  wpList_storeB hgd ty x y ho hB hx hy hi hl h1 (h _ (hB.setRow cs) ((Upd.refl g w).row _))
/-- a guarded load, where its guard says yes -/
theorem wpList_loadBG {ops : Array Oper} {rest : List Oper} {o : Oper} {a : Act} {w : World} {Q : Exit → Act → World → Prop} (hw : Region.wanted o (yielded ops a.tmps) = true) (ty : TypeId) (x : Operand) (ho : o.op = .load ty x)
    {g : Nat} {t : TypeId} {cs : List Value} (hB : Blk w g t cs) (hx : a.eval x = .pointer (some ⟨g, 0, none⟩)) (d : TypeDesc)
    (hu : P.underlying ty = some d) (hd : (match d with | .struct _ | .array _ _ => true | _ => false) = true) (hi : (P.info? ty).map (·.size) = some cs.length)
    (h : wpList P ops Q rest (a.put o.dst (.agg cs.toArray)) w) : wpList P ops Q (o :: rest) a w :=
  wpList_step fun K hK => by
    rw [if_pos hw]
    exact wp_load_row ty x ho g hx t cs.toArray (0, 0) d hB hu hd (by simpa using hi) (hK _ _ h)
theorem wm_loadBG {ops : Array Oper} {Q : Exit → Act → World → Prop} {i : Nat} {o : Oper} {rest : List Nat} {a : Act} {w : World} (hi : ops[i]? = some o) (hw : Region.wanted o (yielded ops a.tmps) = true) (ty : TypeId) (x : Operand) (ho : o.op = .load ty x)
    {g : Nat} {t : TypeId} {cs : List Value} (hB : Blk w g t cs) (hx : a.eval x = .pointer (some ⟨g, 0, none⟩)) (d : TypeDesc)
    (hu : P.underlying ty = some d) (hd : d.isRow = true) (hs : (P.info? ty).map (·.size) = some cs.length)
    (h : WM P ops Q rest (a.put o.dst (.agg cs.toArray)) w) : WM P ops Q (i :: rest) a w := by
  refine wm_rd hi (by simp [isExt, ho]) fun K hK => ?_
  rw [if_pos hw]
  exact rdOp_loadB ty x ho hB hx d hu hd hs (hK _ h)
theorem run_part_int {e : TypeId} {k : IntKind} (he : P.underlying e = some (.int k)) (hi : (P.info? e).map (·.size) = some 1) (l : List Int) (j : Nat) (h : j < l.length) (w : World) : (part e (l.map (Value.int k)).toArray j).run P w = .ok (.int k (l.getD j 0)) w := by
  cases hq : P.info? e with
  | none => simp [hq] at hi
  | some ie =>
    have hs : ie.size = 1 := by simpa [hq] using hi
    simp [part, run_underlying he, isAgg, sizeOf, typeInfo, hq, hs, h]
theorem run_eqItems_ints {e : TypeId} {k : IntKind} (he : P.underlying e = some (.int k)) (hi : (P.info? e).map (·.size) = some 1) (l l' : List Int) (d : Nat) (w : World) : ∀ is : List Nat, (∀ i ∈ is, i < l.length ∧ i < l'.length) →
    (Op.eqItems (d + 1) e 1 (l.map (Value.int k)).toArray (l'.map (Value.int k)).toArray is).run P w = .ok (is.all fun i => l.getD i 0 == l'.getD i 0) w
  | [], _ => by simp [Op.eqItems]
  | i :: is, h => by
    obtain ⟨h1, h2⟩ := h i (by simp)
    have ih := run_eqItems_ints he hi l l' d w is (fun j hj => h j (by simp [hj]))
    rw [Op.eqItems]
    simp only [Sem.run_bind, Nat.mul_one, run_part_int he hi l i h1, run_part_int he hi l' i h2, Result.andThen_ok, run_equalIn_int w d e k k _ _ he, List.all_cons]
    cases hb : (l.getD i 0 == l'.getD i 0)
    · simp
    · simpa using ih
theorem run_equalIn_ints {t e : TypeId} {n : Nat} {k : IntKind} (ht : P.underlying t = some (.array n e)) (he : P.underlying e = some (.int k)) (hi : (P.info? e).map (·.size) = some 1) (hc : P.cellsOf e = 1) (l l' : List Int) (hl : l.length = n) (hl' : l'.length = n) (d : Nat) (w : World) :
    (Op.equalIn (d + 2) t (.agg (l.map (Value.int k)).toArray) (.agg (l'.map (Value.int k)).toArray)).run P w = .ok (l == l') w := by
  obtain ⟨ie, hie⟩ : ∃ ie, P.info? e = some ie := by
    cases hq : P.info? e with
    | none => simp [hq] at hi
    | some ie => exact ⟨ie, rfl⟩
  rw [run_equalIn_array w (d + 1) _ _ ht hie, hc, run_eqItems_ints he hi l l' d w _ (fun i h => by have := List.mem_range.1 h; omega)]
  congr 1
  rw [Bool.eq_iff_iff, List.all_eq_true, beq_iff_eq]
  constructor
  · intro h
    apply List.ext_getElem (by omega)
    intro i h1 h2
    have := h i (List.mem_range.2 (by omega))
    simpa [h1, h2] using this
  · intro h i _
    rw [h]; simp
theorem run_eql_ints {t e : TypeId} {n : Nat} {k : IntKind} (ht : P.underlying t = some (.array n e)) (he : P.underlying e = some (.int k)) (hi : (P.info? e).map (·.size) = some 1) (hc : P.cellsOf e = 1) (l l' : List Int) (hl : l.length = n) (hl' : l'.length = n) (w : World) :
    (binOp .eql t (.agg (l.map (Value.int k)).toArray) (.agg (l'.map (Value.int k)).toArray)).run P w = .ok (.bool (l == l')) w := by
  rw [run_eql_struct, run_equalIn_ints ht he hi hc l l' hl hl' 9998 w]; rfl
theorem run_neq_ints {t e : TypeId} {n : Nat} {k : IntKind} (ht : P.underlying t = some (.array n e)) (he : P.underlying e = some (.int k)) (hi : (P.info? e).map (·.size) = some 1) (hc : P.cellsOf e = 1) (l l' : List Int) (hl : l.length = n) (hl' : l'.length = n) (w : World) :
    (binOp .neq t (.agg (l.map (Value.int k)).toArray) (.agg (l'.map (Value.int k)).toArray)).run P w = .ok (.bool (!(l == l'))) w := by
  rw [run_neq_struct, run_equalIn_ints ht he hi hc l l' hl hl' 9998 w]; rfl
end
end Go.Gr
namespace Go.Gr
open Go.RowKit Go.Sort
set_option linter.unusedVariables false
/-- an assertion on the blocks that it owns -/
structure As where
  fp : Nat → Prop
  p : World → Prop
  lt : ∀ {w : World}, p w → ∀ k, fp k → k < w.heap.size
  loc : ∀ {w w' : World}, p w → (∀ k, fp k → w'.heap[k]? = w.heap[k]?) → p w'
/-- only blocks of S, and what is new, have turned -/
structure Fr (S : Nat → Prop) (w w' : World) : Prop where
  os : w'.os = w.os
  tape : w'.tape = w.tape
  output : w'.output = w.output
  size : w.heap.size ≤ w'.heap.size
  block : ∀ k, k < w.heap.size → ¬ S k → w'.heap[k]? = w.heap[k]?
def No : Nat → Prop := fun _ => False
def At (g : Nat) : Nat → Prop := fun k => k = g
theorem Fr.of_ext {w w' : World} (h : Ext w w') : Fr No w w' := ⟨h.os, h.tape, h.output, h.size, fun k hk _ => h.block k hk⟩
theorem Fr.ext {w w' : World} (h : Fr No w w') : Ext w w' := ⟨h.os, h.tape, h.output, h.size, fun k hk => h.block k hk (fun h => h)⟩
theorem Fr.of_upd {g : Nat} {w w' : World} (h : Upd g w w') : Fr (At g) w w' := ⟨h.os, h.tape, h.output, h.size, fun k hk hn => h.block k hk (fun e => hn (by cases e; rfl))⟩
theorem Fr.upd {g : Nat} {w w' : World} (h : Fr (At g) w w') : Upd g w w' := ⟨h.os, h.tape, h.output, h.size, fun k hk hn => h.block k hk (fun e => hn (by rw [e]))⟩
theorem Fr.refl (S : Nat → Prop) (w : World) : Fr S w w := ⟨rfl, rfl, rfl, Nat.le_refl _, fun _ _ _ => rfl⟩
theorem Fr.mono {S T : Nat → Prop} {w w' : World} (h : Fr S w w') (k : ∀ i, S i → T i) : Fr T w w' := ⟨h.os, h.tape, h.output, h.size, fun i hi hn => h.block i hi (fun hs => hn (k i hs))⟩
theorem Fr.trans {S : Nat → Prop} {a b c : World} (h : Fr S a b) (k : Fr S b c) : Fr S a c :=
  ⟨k.os.trans h.os, k.tape.trans h.tape, k.output.trans h.output, Nat.le_trans h.size k.size, fun i hi hn => (k.block i (Nat.lt_of_lt_of_le hi h.size) hn).trans (h.block i hi hn)⟩
theorem Fr.drewN {S : Nat → Prop} {a b : World} (h : Fr S a b) (n : Nat) : Fr S a (b.drewN n) := ⟨h.os, h.tape, h.output, h.size, h.block⟩
/-- w0 has become w: G may have turned; what L says holds, of blocks of its own -/
structure Sep (G : Nat → Prop) (w0 w : World) (L : List As) : Prop where
  fr : Fr G w0 w
  all : ∀ A ∈ L, A.p w
  own : ∀ A ∈ L, ∀ k, A.fp k → G k ∨ w0.heap.size ≤ k
  dis : L.Pairwise fun A B => ∀ k, A.fp k → ¬ B.fp k
section
variable {G : Nat → Prop} {w0 w w' : World} {L L1 L2 : List As} {A B : As}
theorem Sep.refl (G : Nat → Prop) (w : World) : Sep G w w [] := ⟨Fr.refl _ _, by simp, by simp, List.Pairwise.nil⟩
theorem Sep.start (h : A.p w) : Sep A.fp w w [A] := ⟨Fr.refl _ _, by simpa using h, by simp; exact fun k h => .inl h, by simp⟩
theorem Sep.eq (h : Sep G w0 w L) (e : w' = w) : Sep G w0 w' L := by rw [e]; exact h
theorem Sep.ext (h : Sep G w0 w L) (k : Ext w w') : Sep G w0 w' L :=
  ⟨h.fr.trans ((Fr.of_ext k).mono (fun _ h => h.elim)), fun A hA => A.loc (h.all A hA) (fun i hi => k.block i (A.lt (h.all A hA) i hi)), h.own, h.dis⟩
theorem Sep.drewN (h : Sep G w0 w L) (n : Nat) : Sep G w0 (w.drewN n) L := h.ext ((Ext.refl w).drewN n)
theorem Sep.drew (h : Sep G w0 w L) : Sep G w0 w.drew L := h.ext ((Ext.refl w).drew)
/-- one more, of new blocks -/
theorem Sep.new (h : Sep G w0 w L) (k : Ext w w') (hp : B.p w') (hf : ∀ i, B.fp i → w.heap.size ≤ i) : Sep G w0 w' (B :: L) := by
  have h' := h.ext k
  refine ⟨h'.fr, ?_, ?_, ?_⟩
  · intro A hA
    rcases List.mem_cons.1 hA with rfl | hA
    · exact hp
    · exact h'.all A hA
  · intro A hA i hi
    rcases List.mem_cons.1 hA with rfl | hA
    · exact .inr (Nat.le_trans h.fr.size (hf i hi))
    · exact h'.own A hA i hi
  · refine List.Pairwise.cons (fun A hA i hi hi' => ?_) h'.dis
    have := A.lt (h.all A hA) i hi'
    have := hf i hi
    omega
/-- one of them turns -/
theorem Sep.upd (h : Sep G w0 w (L1 ++ A :: L2)) {S : Nat → Prop} (k : Fr S w w') (hS : ∀ i, S i → A.fp i) (hp : B.p w') (hf : ∀ i, B.fp i → A.fp i ∨ w.heap.size ≤ i) : Sep G w0 w' (L1 ++ B :: L2) := by
  have hA : A ∈ L1 ++ A :: L2 := by simp
  have hd := List.pairwise_append.1 h.dis
  have hd2 := List.pairwise_cons.1 hd.2.1
  have keep : ∀ C, (C ∈ L1 ∨ C ∈ L2) → (∀ i, C.fp i → ¬ A.fp i) := by
    rintro C (hC | hC) i hi hi'
    · exact hd.2.2 C hC A (by simp) i hi hi'
    · exact hd2.1 C hC i hi' hi
  have old : ∀ C, (C ∈ L1 ∨ C ∈ L2) → C.p w' := by
    intro C hC
    have hm : C ∈ L1 ++ A :: L2 := by rcases hC with hC | hC <;> simp [hC]
    exact C.loc (h.all C hm) fun i hi => k.block i (C.lt (h.all C hm) i hi) (fun hs => keep C hC i hi (hS i hs))
  refine ⟨?_, ?_, ?_, ?_⟩
  · refine ⟨k.os.trans h.fr.os, k.tape.trans h.fr.tape, k.output.trans h.fr.output, Nat.le_trans h.fr.size k.size, fun i hi hn => ?_⟩
    refine (k.block i (Nat.lt_of_lt_of_le hi h.fr.size) (fun hs => ?_)).trans (h.fr.block i hi hn)
    rcases h.own A hA i (hS i hs) with hg | hg
    · exact hn hg
    · omega
  · intro C hC
    rcases List.mem_append.1 hC with hC | hC
    · exact old C (.inl hC)
    · rcases List.mem_cons.1 hC with rfl | hC
      · exact hp
      · exact old C (.inr hC)
  · intro C hC i hi
    rcases List.mem_append.1 hC with hC | hC
    · exact h.own C (by simp [hC]) i hi
    · rcases List.mem_cons.1 hC with rfl | hC
      · rcases hf i hi with h1 | h1
        · exact h.own A hA i h1
        · exact .inr (Nat.le_trans h.fr.size h1)
      · exact h.own C (by simp [hC]) i hi
  · have far : ∀ C, (C ∈ L1 ∨ C ∈ L2) → ∀ i, C.fp i → ¬ B.fp i := by
      intro C hC i hi hb
      rcases hf i hb with h1 | h1
      · exact keep C hC i hi h1
      · have hm : C ∈ L1 ++ A :: L2 := by rcases hC with hC | hC <;> simp [hC]
        have := C.lt (h.all C hm) i hi
        omega
    refine List.pairwise_append.2 ⟨hd.1, List.pairwise_cons.2 ⟨fun C hC i hi hi' => far C (.inr hC) i hi' hi, hd2.2⟩, fun C hC D hD i hi hi' => ?_⟩
    rcases List.mem_cons.1 hD with rfl | hD
    · exact far C (.inl hC) i hi hi'
    · exact hd.2.2 C hC D (by simp [hD]) i hi hi'
theorem Sep.get (h : Sep G w0 w L) (hA : A ∈ L) : A.p w := h.all A hA
theorem Sep.sub {L' : List As} (h : Sep G w0 w L) (hs : L'.Sublist L) : Sep G w0 w L' :=
  ⟨h.fr, fun A hA => h.all A (hs.mem hA), fun A hA => h.own A (hs.mem hA), h.dis.sublist hs⟩
theorem Sep.perm {L' : List As} (h : Sep G w0 w L) (hs : L.Perm L') : Sep G w0 w L' :=
  ⟨h.fr, fun A hA => h.all A (hs.mem_iff.2 hA), fun A hA => h.own A (hs.mem_iff.2 hA), (hs.pairwise_iff (fun {a b} h k hb ha => h k ha hb)).1 h.dis⟩
theorem Sep.swap (h : Sep G w0 w (A :: B :: L)) : Sep G w0 w (B :: A :: L) := h.perm (List.Perm.swap _ _ _)
theorem Sep.tail (h : Sep G w0 w (A :: L)) : Sep G w0 w L := h.sub (List.sublist_cons_self _ _)
/-- what held of old blocks that have not turned -/
theorem Sep.old (h : Sep G w0 w L) (hA : A.p w0) (hG : ∀ i, A.fp i → ¬ G i) : A.p w := A.loc hA fun i hi => h.fr.block i (A.lt hA i hi) (hG i hi)
theorem Sep.toExt (h : Sep No w0 w L) : Ext w0 w := h.fr.ext
theorem Sep.toUpd {g : Nat} (h : Sep (At g) w0 w L) : Upd g w0 w := h.fr.upd
theorem Sep.le (h : Sep G w0 w L) : w0.heap.size ≤ w.heap.size := h.fr.size
end
/-- block g is just these cells -/
def As.blk (g : Nat) (e : TypeId) (cs : List Value) : As := ⟨At g, fun w => Blk w g e cs, fun h k hk => by cases hk; exact h.lt, fun h k => (k g rfl).trans h⟩
/-- a row that the call itself made -/
def As.own (e : TypeId) (v : Value) (xs : List Value) : As :=
  ⟨fun k => v.ownBlock = some k, fun w => Own 0 w e v xs, fun h k hk => (World.ownsRow.lt h k hk).2, fun h k => by
    refine ⟨h.1, ?_⟩
    rcases h.2 with h0 | ⟨g, cap, cur, rfl, hb, hh, r⟩
    · exact .inl h0
    · exact .inr ⟨g, cap, cur, rfl, hb, by rw [k g rfl]; exact hh, r⟩⟩
/-- a part of a block that is read -/
def As.rd (A : Option Addr) (xs : List Value) : As :=
  ⟨fun k => xs ≠ [] ∧ ∃ ad, A = some ad ∧ ad.block = k, fun w => Rd w A xs, fun {w} h k hk => by
    obtain ⟨hne, ad, rfl, rfl⟩ := hk
    obtain ⟨ad', e, hc⟩ := h.at_ (List.length_pos_iff.2 hne)
    cases e
    have := cell_lt hc
    rwa [add_block] at this, fun {w w'} h k j u hu => by
    obtain ⟨ad, e, hc⟩ := h j u hu
    refine ⟨ad, e, ?_⟩
    have hk := k ad.block ⟨fun h0 => by rw [h0] at hu; simp at hu, ad, e, rfl⟩
    rw [← add_block ad j] at hk
    exact (World.cell?_of_block hk).trans hc⟩
section
variable {G : Nat → Prop} {w0 w w' : World} {L L1 L2 : List As} {A B : As}
theorem Sep.blk {g : Nat} {e : TypeId} {cs : List Value} (h : Sep G w0 w L) (hA : As.blk g e cs ∈ L) : Blk w g e cs := h.get hA
theorem Sep.owns {e : TypeId} {v : Value} {xs : List Value} (h : Sep G w0 w L) (hA : As.own e v xs ∈ L) : Own 0 w e v xs := h.get hA
theorem Sep.newB {g : Nat} {e : TypeId} {cs : List Value} (h : Sep G w0 w L) (k : Ext w w') (hp : Blk w' g e cs) (hg : w.heap.size ≤ g) : Sep G w0 w' (As.blk g e cs :: L) := h.new (B := As.blk g e cs) k hp (fun i hi => by cases hi; exact hg)
theorem Sep.newO {e : TypeId} {v : Value} {xs : List Value} (h : Sep G w0 w L) (k : Ext w w') (hp : Own w.heap.size w' e v xs) : Sep G w0 w' (As.own e v xs :: L) := by
  refine h.new (B := As.own e v xs) k ⟨hp.1, ?_⟩ (fun i hi => hp.low i hi)
  rcases hp.2 with h0 | ⟨g, cap, cur, rfl, hb, r⟩
  · exact .inl h0
  · exact .inr ⟨g, cap, cur, rfl, Nat.zero_le _, r⟩
theorem Sep.nilO (e : TypeId) (h : Sep G w0 w L) : Sep G w0 w (As.own e (.slice none 0 0) [] :: L) := h.newO (Ext.refl w) (Own.nil _ _ _)
theorem Sep.rds {A : Option Addr} {xs : List Value} (h : Sep G w0 w L) (hr : Rd w0 A xs) (hG : ∀ ad, A = some ad → ¬ G ad.block) : Rd w A xs :=
  h.old (A := As.rd A xs) hr (fun i ⟨_, ad, e, hi⟩ => by rw [← hi]; exact hG ad e)
theorem Sep.rdN {A : Option Addr} {xs : List Value} (h : Sep No w0 w L) (hr : Rd w0 A xs) : Rd w A xs := h.rds hr (fun _ _ h => h)
/-- a cell of a block is written -/
theorem Sep.cell {g : Nat} {e : TypeId} {cs : List Value} (h : Sep G w0 w (L1 ++ As.blk g e cs :: L2)) (i : Nat) (u : Value) : Sep G w0 (w.setCell ⟨g, i, none⟩ u) (L1 ++ As.blk g e (cs.set i u) :: L2) :=
  h.upd (B := As.blk g e (cs.set i u)) (Fr.of_upd ((Upd.refl g w).cell i u)) (fun _ h => h) ((h.blk (by simp)).set i u) (fun _ h => .inl h)
end
section
variable {P : Program} {G : Nat → Prop} {w0 w : World} {L L1 L2 : List As} {ops : Array Oper} {rest : List Oper} {o : Oper} {a : Act} {Q : Exit → Act → World → Prop}
/-- a whole array or struct into a block -/
theorem wpList_stS (L1 : List As) {L2 : List As} {g : Nat} {t : TypeId} {old cs : List Value} (H : Sep G w0 w (L1 ++ As.blk g t old :: L2)) (hgd : o.guard = none) (ty : TypeId) (x y : Operand) (ho : o.op = .store ty x y)
    (hx : a.eval x = .pointer (some ⟨g, 0, none⟩)) (hy : a.eval y = .agg cs.toArray)
    (hi : (P.info? ty).map (·.size) = some cs.length) (hl : old.length = cs.length) (h1 : ∀ v ∈ cs, v.oneCell' = true)
    (h : ∀ w', Sep G w0 w' (L1 ++ As.blk g t cs :: L2) → wpList P ops Q rest (a.put o.dst undef) w') : wpList P ops Q (o :: rest) a w :=
  wpList_storeH hgd ty x y ho (H.blk (by simp)) hx hy hi hl h1 fun w' hb hu => h w' (H.upd (B := As.blk g t cs) (Fr.of_upd hu) (fun _ h => h) hb (fun _ h => .inl h))
/-- a whole array or struct out of a block -/
theorem wpList_ldS {g : Nat} {t : TypeId} {cs : List Value} (H : Sep G w0 w L) (hA : As.blk g t cs ∈ L) (hgd : Region.wanted o (yielded ops a.tmps) = true) (ty : TypeId) (x : Operand) (ho : o.op = .load ty x)
    (hx : a.eval x = .pointer (some ⟨g, 0, none⟩)) (d : TypeDesc)
    (hu : P.underlying ty = some d) (hd : (match d with | .struct _ | .array _ _ => true | _ => false) = true) (hi : (P.info? ty).map (·.size) = some cs.length)
    (h : wpList P ops Q rest (a.put o.dst (.agg cs.toArray)) w) : wpList P ops Q (o :: rest) a w :=
  wpList_loadBG hgd ty x ho (H.blk hA) hx d hu hd hi h
theorem wm_ldS {i : Nat} {l : List Nat} {g : Nat} {t : TypeId} {cs : List Value} (H : Sep G w0 w L) (hA : As.blk g t cs ∈ L) (hi' : ops[i]? = some o) (hgd : Region.wanted o (yielded ops a.tmps) = true) (ty : TypeId) (x : Operand) (ho : o.op = .load ty x)
    (hx : a.eval x = .pointer (some ⟨g, 0, none⟩)) (d : TypeDesc)
    (hu : P.underlying ty = some d) (hd : d.isRow = true) (hi : (P.info? ty).map (·.size) = some cs.length)
    (h : WM P ops Q l (a.put o.dst (.agg cs.toArray)) w) : WM P ops Q (i :: l) a w :=
  wm_loadBG hi' hgd ty x ho (H.blk hA) hx d hu hd hi h
/-- append onto a row: where the row lies behind it -/
theorem run_append_sep (t ty e : TypeId) (i : TypeInfo) (z : Value) (size bytes : Nat) (ht : P.underlying t = some (.slice e)) (hi : P.info? e = some i) (hz : i.zero = some z)
    (hsize : i.size = size) (hby : i.bytes = bytes) (hzs : z.cells.size = size) (hsz : 0 < size)
    (v : Value) (n : Nat) (xs : List Value) (hown : w.ownsRow 0 e size v n xs) (A : Option Addr) (m c : Nat) (news : List Value) (hl : news.length = m * size) (hr : Rd w A news)
    (h1 : ∀ u ∈ news, u.oneCell' = true) (h63 : n + m ≤ maxLen) (hbytes : (n + m) * bytes ≤ 140737488355328) :
    ∃ v' w', (Builtin.append_ #[t, t] ty #[v, .slice A m c]).run P w = .ok v' w' ∧ w'.ownsRow 0 e size v' (n + m) (xs ++ news) ∧ w.grownBy w' v.ownBlock ∧ (∀ k, v'.ownBlock = some k → v.ownBlock = some k ∨ w.heap.size ≤ k) := by
  rcases A with _ | ad
  · have hn : news = [] := by
      rcases news with _ | ⟨x, r⟩
      · rfl
      · obtain ⟨ad, e, _⟩ := hr 0 x (by simp); cases e
    subst hn
    have hm : m = 0 := by
      rcases Nat.eq_zero_or_pos m with h | h
      · exact h
      · have := Nat.mul_pos h hsz; simp at hl; omega
    subst hm
    exact ⟨v, w, run_append_none_src 0 t ty e i size ht hi v n xs hown c, by simpa using hown, World.grownBy.refl w _, fun k hk => .inl hk⟩
  · have hnews : ∀ j u, news[j]? = some u → w.cell? (ad.add j) = some u := fun j u hu => by obtain ⟨ad', e, hc⟩ := hr j u hu; cases e; exact hc
    have hsmall : n + m ≤ 9223372036854775807 := by simp only [maxLen] at h63; omega
    obtain ⟨v', w', hrun, h2, h3, _⟩ := run_append_own (P := P) w 0 t ty e i z size bytes ht hi hz hsize hby hzs hsz v n xs hown ad m c news hl hnews h1 h63 hbytes (Nat.zero_le _)
    refine ⟨v', w', hrun, h2, h3, fun k hk => ?_⟩
    subst hsize
    subst hby
    rcases hown.2 with ⟨rfl, rfl⟩ | ⟨g, cap, cur, rfl, hbg, hg, hnc, hcm, hcs, htake⟩
    · obtain ⟨v2, w2, hrun2, h4, _, _⟩ := run_append_own (P := P) w w.heap.size t ty e i z i.size i.bytes ht hi hz rfl rfl hzs hsz (.slice none 0 0) 0 xs ⟨hown.1, .inl ⟨rfl, rfl⟩⟩ ad m c news hl hnews h1 h63 hbytes (Nat.le_refl _)
      rw [hrun] at hrun2
      cases hrun2
      exact .inr (World.ownsRow.lt h4 k hk).1
    · by_cases hroom : n + m ≤ cap
      · have hfit : n * i.size + news.length ≤ cur.size := by rw [hl, hcs, ← Nat.add_mul]; exact Nat.mul_le_mul_right _ hroom
        have hr2 := run_append_room (P := P) w t ty e i ht hi g n cap cur hg ad m c news hl hnews h1 hroom hfit
        rw [hrun] at hr2
        cases hr2
        exact .inl hk
      · have holds : ∀ j u, xs[j]? = some u → w.cell? ((⟨g, 0, none⟩ : Addr).add j) = some u := hown.cells (g := g) rfl
        have hr2 := run_append_grow (P := P) w t ty e i z ht hi hz ⟨g, 0, none⟩ n cap xs hown.1 holds ad m c news hl hnews (by omega) (by omega) (growslice_fits (by omega) hbytes)
        rw [hrun] at hr2
        cases hr2
        simp [Value.ownBlock] at hk
        exact .inr (by omega)
/-- append onto a row of the call's own -/
theorem wp_apS (L1 : List As) {L2 : List As} {e : TypeId} {v : Value} {xs : List Value} {K : Act → World → Prop} (H : Sep G w0 w (L1 ++ As.own e v xs :: L2)) (s x : Operand) (t : TypeId)
    (ho : o.op = .call { callee := .builtin .append, args := #[s, x], argTypes := #[t, t] })
    (i : TypeInfo) (z : Value) (bytes : Nat) (ht : P.underlying t = some (.slice e)) (hi : P.info? e = some i) (hz : i.zero = some z)
    (hsize : i.size = 1) (hby : i.bytes = bytes) (hzs : z.cells.size = 1)
    (hs : a.eval s = v) {A : Option Addr} {m c : Nat} {news : List Value} (hx : a.eval x = .slice A m c) (hl : m = news.length) (hr : Rd w A news)
    (h1 : ∀ u ∈ news, u.oneCell' = true) (hlen : xs.length + news.length ≤ 1000000000) (hb : bytes ≤ 1000)
    (h : ∀ v' w', Sep G w0 w' (L1 ++ As.own e v' (xs ++ news) :: L2) → Fr (fun k => v.ownBlock = some k) w w' → (∀ k, v'.ownBlock = some k → v.ownBlock = some k ∨ w.heap.size ≤ k) → K (a.put o.dst v') w') : o.wp P a w K Q := by
  subst hl
  have hbb : (xs.length + news.length) * bytes ≤ 1000000000 * 1000 := Nat.mul_le_mul hlen hb
  obtain ⟨v', w', hrun, h2, h3, h4⟩ := run_append_sep (P := P) (w := w) t o.type e i z 1 bytes ht hi hz hsize hby hzs (by decide) v xs.length xs (H.owns (by simp)) A news.length c news (by simp) hr h1 (by unfold maxLen; omega) (by omega)
  unfold Oper.wp execOp
  simp only [ho, resolve, invoke, builtin, Sem.run_bind, Sem.run_pure, Result.andThen_ok, List.map_toArray, List.map_cons, List.map_nil, hs, hx, hrun]
  have hf : Fr (fun k => v.ownBlock = some k) w w' := ⟨h3.os, h3.tape, h3.output, h3.size, fun k hk hn => h3.block k hk (fun e => hn e.symm)⟩
  exact h v' w' (H.upd (A := As.own e v xs) (B := As.own e v' (xs ++ news)) hf (fun _ h => h) (by show Own 0 w' e v' (xs ++ news); unfold Own; rw [List.length_append]; exact h2) h4) hf h4
theorem wpList_apS (L1 : List As) {L2 : List As} {e : TypeId} {v : Value} {xs : List Value} (H : Sep G w0 w (L1 ++ As.own e v xs :: L2)) (hgd : o.guard = none) (s x : Operand) (t : TypeId)
    (ho : o.op = .call { callee := .builtin .append, args := #[s, x], argTypes := #[t, t] })
    (i : TypeInfo) (z : Value) (bytes : Nat) (ht : P.underlying t = some (.slice e)) (hi : P.info? e = some i) (hz : i.zero = some z)
    (hsize : i.size = 1) (hby : i.bytes = bytes) (hzs : z.cells.size = 1)
    (hs : a.eval s = v) {A : Option Addr} {m c : Nat} {news : List Value} (hx : a.eval x = .slice A m c) (hl : m = news.length) (hr : Rd w A news)
    (h1 : ∀ u ∈ news, u.oneCell' = true) (hlen : xs.length + news.length ≤ 1000000000) (hb : bytes ≤ 1000)
    (h : ∀ v' w', Sep G w0 w' (L1 ++ As.own e v' (xs ++ news) :: L2) → wpList P ops Q rest (a.put o.dst v') w') : wpList P ops Q (o :: rest) a w :=
  wpList_plain hgd fun K hK => wp_apS L1 H s x t ho i z bytes ht hi hz hsize hby hzs hs hx hl hr h1 hlen hb fun v' w' H' _ _ => hK _ _ (h v' w' H')
end
section
variable {G : Nat → Prop} {w0 w w' : World} {L L1 L2 : List As} {A B : As}
/-- a whole block becomes a row that can grow -/
theorem Sep.toOwn (L1 : List As) {L2 : List As} {g : Nat} {e : TypeId} {cs : List Value} (h : Sep G w0 w (L1 ++ As.blk g e cs :: L2)) (hl : cs.length ≤ 1000000000) : Sep G w0 w (L1 ++ As.own e (.slice (some ⟨g, 0, none⟩) cs.length cs.length) cs :: L2) :=
  h.upd (B := As.own e (.slice (some ⟨g, 0, none⟩) cs.length cs.length) cs) (Fr.refl No w) (fun _ h => h.elim) ((h.blk (by simp)).own (Nat.zero_le _) hl) (fun i hi => .inl (by simp [As.own, Value.ownBlock] at hi; exact hi.symm))
theorem Sep.front (L1 : List As) {L2 : List As} (h : Sep G w0 w (L1 ++ A :: L2)) : Sep G w0 w (A :: (L1 ++ L2)) := h.perm List.perm_middle
theorem Sep.back (L1 : List As) {L2 : List As} (h : Sep G w0 w (A :: (L1 ++ L2))) : Sep G w0 w (L1 ++ A :: L2) := h.perm List.perm_middle.symm
/-- both, of what may be shared -/
def As.and (A B : As) : As := ⟨fun k => A.fp k ∨ B.fp k, fun w => A.p w ∧ B.p w, fun h k hk => hk.elim (A.lt h.1 k) (B.lt h.2 k), fun h k => ⟨A.loc h.1 (fun i hi => k i (.inl hi)), B.loc h.2 (fun i hi => k i (.inr hi))⟩⟩
/-- two become one -/
theorem Sep.merge {C : As} (h : Sep G w0 w (A :: B :: L)) (hp : A.p w → B.p w → C.p w) (hf : ∀ i, C.fp i → A.fp i ∨ B.fp i) : Sep G w0 w (C :: L) := by
  have hd := List.pairwise_cons.1 h.dis
  have hd2 := List.pairwise_cons.1 hd.2
  refine ⟨h.fr, ?_, ?_, ?_⟩
  · intro X hX
    rcases List.mem_cons.1 hX with rfl | hX
    · exact hp (h.all A (by simp)) (h.all B (by simp))
    · exact h.all X (by simp [hX])
  · intro X hX i hi
    rcases List.mem_cons.1 hX with rfl | hX
    · rcases hf i hi with h1 | h1
      · exact h.own A (by simp) i h1
      · exact h.own B (by simp) i h1
    · exact h.own X (by simp [hX]) i hi
  · refine List.pairwise_cons.2 ⟨fun X hX i hi hi' => ?_, hd2.2⟩
    rcases hf i hi with h1 | h1
    · exact hd.1 X (by simp [hX]) i h1 hi'
    · exact hd2.1 X hX i h1 hi'
/-- one is weakened -/
theorem Sep.weak (L1 : List As) {L2 : List As} (h : Sep G w0 w (L1 ++ A :: L2)) (hp : A.p w → B.p w) (hf : ∀ i, B.fp i → A.fp i) : Sep G w0 w (L1 ++ B :: L2) :=
  h.upd (B := B) (Fr.refl No w) (fun _ h => h.elim) (hp (h.get (by simp))) (fun i hi => .inl (hf i hi))
end
end Go.Gr
namespace Go.Gr
open Go.RowKit Go.Sort
set_option linter.unusedVariables false
/-- what may become of a world while such a region runs -/
structure RT where
  r : World → World → Prop
  refl : ∀ w, r w w
  trans : ∀ a b c, r a b → r b c → r a c
def RT.fr (S : Nat → Prop) : RT := ⟨Fr S, Fr.refl S, fun _ _ _ h k => h.trans k⟩
/-- and this cell is kept -/
def RT.keep (S : Nat → Prop) (ad : Addr) : RT := ⟨fun w w' => Fr S w w' ∧ ∀ v, w.cell? ad = some v → w'.cell? ad = some v, fun w => ⟨Fr.refl S w, fun _ h => h⟩, fun _ _ _ h k => ⟨h.1.trans k.1, fun v hv => k.2 v (h.2 v hv)⟩⟩
/-- is it more than reading? -/
def isX (o : Oper) : Bool := isExt o || (match o.op with | .store _ _ _ => true | .call { callee := .builtin .copy, .. } => true | _ => false)
/-- in this order each reading operation comes as early as its edges allow, and what adds memory stands in one line -/
def okAllX (ops : Array Oper) : Array Bool → List Nat → Bool
  | listed, [] => (Region.ready .any ops listed).isEmpty
  | listed, i :: rest =>
    match ops[i]? with
    | none => false
    | some o =>
      (if isX o then Region.ready .any ops listed == [i]
       else (Region.ready .any ops listed).contains i &&
        (List.range ops.size).all fun j => j == i || listed.getD j true || (match ops[j]? with
          | some oj => !(oj.after.all fun e => !Region.binds .any e || e.on != i) || o.apart ops oj
          | none => true)) &&
      okAllX ops (listed.setIfInBounds i true) rest
def wpMR (R : RT) (P : Program) (ops : Array Oper) (Q : Exit → Act → World → Prop) : List Nat → Act → World → Prop
  | [], a, w => Q .normal a w
  | i :: rest, a, w =>
    match ops[i]? with
    | none => False
    | some o =>
      if Region.wanted o (yielded ops a.tmps) then
        (if isX o then o.wp P a w (fun a' w' => R.r w w' ∧ wpMR R P ops Q rest a' w') Q else rdOp P o a (R.r w) (fun a' => wpMR R P ops Q rest a' w))
      else wpMR R P ops Q rest (a.put o.dst undef) w
section
variable {P : Program} {ops : Array Oper} {Q : Exit → Act → World → Prop} {R : RT}
theorem run_monoR (hsel : ∀ (j : Nat) (o : Oper) cs b, ops[j]? = some o → o.op ≠ .select cs b) (hQ : ∀ c a w, ¬ Q (.panic c) a w) :
    ∀ (perm : List Nat) (listed : Array Bool) (a : Act) (w : World), okAllX ops listed perm = true → wpMR R P ops Q perm a w → wpAnyH P .any ops Q (R.r w) perm.length listed a w
  | [], listed, a, w, hok, h => by
    simp only [okAllX, List.isEmpty_iff] at hok
    exact ⟨hok, h⟩
  | i :: rest, listed, a, w, hok, h => by
    unfold okAllX at hok
    unfold wpMR at h
    cases ho : ops[i]? with
    | none => rw [ho] at h; exact h.elim
    | some o =>
      simp only [ho] at hok h
      rw [Bool.and_eq_true] at hok
      obtain ⟨hok1, hok2⟩ := hok
      by_cases hx : isX o = true
      · simp only [hx, if_true] at hok1 h
        have hr : Region.ready .any ops listed = [i] := by simpa using hok1
        refine wpAnyH_all hr (by simp) fun j hj => ?_
        obtain rfl : j = i := by simpa using hj
        refine wpOp_step ho fun K' hK => ?_
        split
        · rename_i hw
          rw [if_pos hw] at h
          have hm : ∀ a' w', (R.r w w' ∧ wpMR R P ops Q rest a' w') → K' a' w' := fun a' w' ⟨h1, h2⟩ =>
            hK _ _ ⟨h1, wpAnyH_mono (fun x hx => R.trans _ _ _ h1 hx) _ _ _ _ (run_monoR hsel hQ rest _ a' w' hok2 h2)⟩
          exact Oper.wp_mono hm h
        · rename_i hw
          rw [if_neg hw] at h
          exact hK _ _ ⟨R.refl w, run_monoR hsel hQ rest _ _ w hok2 h⟩
      · have hx' : isX o = false := by simpa using hx
        simp only [hx', Bool.false_eq_true, if_false] at hok1 h
        rw [Bool.and_eq_true] at hok1
        obtain ⟨hin, hap⟩ := hok1
        have hmem : i ∈ Region.ready .any ops listed := by simpa using hin
        have hapart : ∀ j oj, ops[j]? = some oj → j ≠ i → listed.getD j true = false → (∀ e ∈ oj.after, Region.binds .any e = true → e.on ≠ i) → o.apart ops oj = true := by
          intro j oj hj hne hl hw
          have hjl : j < ops.size := (Array.getElem?_eq_some_iff.1 hj).1
          have h1 := List.all_eq_true.1 hap j (List.mem_range.2 hjl)
          simp only [hj, Bool.or_eq_true, beq_iff_eq] at h1
          rcases h1 with (h1 | h1) | h1 | h1
          · exact absurd h1 hne
          · rw [hl] at h1; cases h1
          · exfalso
            have : (oj.after.all fun e => !Region.binds .any e || e.on != i) = true := by
              rw [Array.all_eq_true_iff_forall_mem]
              intro e he
              by_cases hb : Region.binds .any e = true
              · have := hw e he hb; simp [this]
              · simp [hb]
            rw [this] at h1; cases h1
          · exact h1
        split at h
        · rename_i hw
          obtain ⟨v, hv, hn⟩ := h
          refine wpAnyH_first ho hsel (fun c a w h => (hQ _ _ _ h).elim) rest.length listed a w hapart hmem (.inl ⟨hw, fun w' hw' => rd_run (hv w' hw')⟩) (R.refl w) ?_
          exact run_monoR hsel hQ rest _ _ w hok2 hn
        · rename_i hw
          refine wpAnyH_first (v := undef) ho hsel (fun c a w h => (hQ _ _ _ h).elim) rest.length listed a w hapart hmem (.inr ⟨by simpa using hw, rfl⟩) (R.refl w) ?_
          exact run_monoR hsel hQ rest _ _ w hok2 h
/-- THE RULE: a region that draws its order, walked in the order 'perm'. -/
theorem wp_region_monoR {id : Nat} {l : List Oper} {a : Act} {w : World} (perm : List Nat) (hm : P.follows .mixedOrders = true) (hs : (l.all fun o => !isSel o) = true) (hl : perm.length = l.toArray.size)
    (hok : okAllX l.toArray (Array.replicate l.toArray.size false) perm = true) (h : wpMR R P l.toArray (NoPanic Q) perm a w.drew) : (Code.region id l.toArray true).wp P Q a w := by
  refine wp_region_noPanic (wp_region_held (S := R.r w.drew) hm ?_)
  rw [← hl] at *
  refine run_monoR ?_ (fun c a w h => h) perm _ a _ hok h
  intro j o cs b hj he
  have hmem : o ∈ l := by
    rw [List.getElem?_toArray] at hj
    exact List.mem_of_getElem? hj
  have := List.all_eq_true.1 hs o hmem
  simp [isSel, he] at this
structure WMR (R : RT) (P : Program) (ops : Array Oper) (Q : Exit → Act → World → Prop) (l : List Nat) (a : Act) (w : World) : Prop where
  out : wpMR R P ops Q l a w
theorem wmr_rd {i : Nat} {o : Oper} {rest : List Nat} {a : Act} {w : World} (ho : ops[i]? = some o) (hx : isX o = false)
    (h : ∀ K : Act → Prop, (∀ a, WMR R P ops Q rest a w → K a) → if Region.wanted o (yielded ops a.tmps) then rdOp P o a (R.r w) K else K (a.put o.dst undef)) : WMR R P ops Q (i :: rest) a w := by
  have := h (fun a => wpMR R P ops Q rest a w) (fun _ h => h.out)
  refine ⟨?_⟩
  unfold wpMR
  simp only [ho, hx]
  exact this
theorem wmr_ext {i : Nat} {o : Oper} {rest : List Nat} {a : Act} {w : World} (ho : ops[i]? = some o) (hx : isX o = true)
    (h : ∀ K : Act → World → Prop, (∀ a' w', R.r w w' → WMR R P ops Q rest a' w' → K a' w') → if Region.wanted o (yielded ops a.tmps) then o.wp P a w K Q else K (a.put o.dst undef) w) : WMR R P ops Q (i :: rest) a w := by
  have := h (fun a' w' => R.r w w' ∧ wpMR R P ops Q rest a' w') (fun _ _ h1 h2 => ⟨h1, h2.out⟩)
  refine ⟨?_⟩
  unfold wpMR
  simp only [ho, hx, if_true]
  split
  · rename_i hw; rw [if_pos hw] at this; exact this
  · rename_i hw; rw [if_neg hw] at this; exact this.2
theorem wmr_nil {a : Act} {w : World} (h : Q .normal a w) : WMR R P ops (NoPanic Q) [] a w := ⟨NoPanic.normal h⟩
theorem wp_region_wmr {id : Nat} {l : List Oper} {a : Act} {w : World} (R : RT) (perm : List Nat) (hm : P.follows .mixedOrders = true) (hs : (l.all fun o => !isSel o) = true) (hl : perm.length = l.toArray.size)
    (hok : okAllX l.toArray (Array.replicate l.toArray.size false) perm = true) (h : WMR R P l.toArray (NoPanic Q) perm a w.drew) : (Code.region id l.toArray true).wp P Q a w :=
  wp_region_monoR (R := R) perm hm hs hl hok h.out
end
/-- the head in this order, each reading operation as early as its edges allow, what adds memory in one line; then the tail from n on, in one line -/
def okTailX (ops : Array Oper) (n g : Nat) : Array Bool → List Nat → Bool
  | listed, [] => Region.seqB .any ops g n listed
  | listed, i :: rest =>
    match ops[i]? with
    | none => false
    | some o =>
      decide (i < n) && (if isX o then Region.ready .any ops listed == [i]
       else (Region.ready .any ops listed).contains i &&
        (List.range ops.size).all fun j => j == i || listed.getD j true || (match ops[j]? with
          | some oj => !(oj.after.all fun e => !Region.binds .any e || e.on != i) || o.apart ops oj
          | none => true)) &&
      okTailX ops n g (listed.setIfInBounds i true) rest
def wpTR (R : RT) (P : Program) (ops : Array Oper) (Q : Exit → Act → World → Prop) (tail : List Oper) : List Nat → Act → World → Prop
  | [], a, w => wpList P ops Q tail a w
  | i :: rest, a, w =>
    match ops[i]? with
    | none => False
    | some o =>
      if Region.wanted o (yielded ops a.tmps) then
        (if isX o then o.wp P a w (fun a' w' => R.r w w' ∧ wpTR R P ops Q tail rest a' w') Q else rdOp P o a (R.r w) (fun a' => wpTR R P ops Q tail rest a' w))
      else wpTR R P ops Q tail rest (a.put o.dst undef) w
section
variable {P : Program} {ops : Array Oper} {Q : Exit → Act → World → Prop} {R : RT} {n g : Nat}
theorem run_tailR {tail : List Oper} (hsel : ∀ (j : Nat) (o : Oper) cs b, ops[j]? = some o → o.op ≠ .select cs b) (hQ : ∀ c a w, ¬ Q (.panic c) a w)
    (hs : Region.sinkB .any ops n = true) (hc : Region.chainB .any ops n = true) (hn : n < ops.size) (htl : ∀ j, tail[j]? = ops[n + j]?) (hg : tail.length = g) :
    ∀ (perm : List Nat) (listed : Array Bool) (a : Act) (w : World), HeadInv .any ops n listed → okTailX ops n g listed perm = true → wpTR R P ops Q tail perm a w → wpAnyT P .any ops Q n g (R.r w) perm.length listed a w
  | [], listed, a, w, inv, hok, h => by
    simp only [okTailX] at hok
    have := wpAny_of_seq (P := P) (md := .any) (ops := ops) (Q' := Q) tail n listed a w htl (by rw [hg]; exact hok) h
    rw [hg] at this
    exact ⟨seqB_ready hok, this⟩
  | i :: rest, listed, a, w, inv, hok, h => by
    unfold okTailX at hok
    unfold wpTR at h
    cases ho : ops[i]? with
    | none => rw [ho] at h; exact h.elim
    | some o =>
      simp only [ho] at hok h
      rw [Bool.and_eq_true, Bool.and_eq_true, decide_eq_true_eq] at hok
      obtain ⟨⟨hin, hok1⟩, hok2⟩ := hok
      by_cases hx : isX o = true
      · simp only [hx, if_true] at hok1 h
        have hr : Region.ready .any ops listed = [i] := by simpa using hok1
        have hir : i ∈ Region.ready .any ops listed := by rw [hr]; simp
        refine ⟨by rw [hr]; simp, fun j hj => ?_⟩
        obtain rfl : j = i := by rw [hr] at hj; simpa using hj
        refine ⟨hin, ?_⟩
        refine wpOp_step ho fun K' hK => ?_
        split
        · rename_i hw
          rw [if_pos hw] at h
          have hm : ∀ a' w', (R.r w w' ∧ wpTR R P ops Q tail rest a' w') → K' a' w' := fun a' w' ⟨h1, h2⟩ =>
            hK _ _ ⟨h1, wpAnyT_mono (fun x hx => R.trans _ _ _ h1 hx) _ _ _ _ (run_tailR hsel hQ hs hc hn htl hg rest _ a' w' (inv.set hir hin) hok2 h2)⟩
          exact Oper.wp_mono hm h
        · rename_i hw
          rw [if_neg hw] at h
          exact hK _ _ ⟨R.refl w, run_tailR hsel hQ hs hc hn htl hg rest _ _ w (inv.set hir hin) hok2 h⟩
      · have hx' : isX o = false := by simpa using hx
        simp only [hx', Bool.false_eq_true, if_false] at hok1 h
        rw [Bool.and_eq_true] at hok1
        obtain ⟨hinr, hap⟩ := hok1
        have hmem : i ∈ Region.ready .any ops listed := by simpa using hinr
        have hapart : ∀ j oj, ops[j]? = some oj → j ≠ i → listed.getD j true = false → (∀ e ∈ oj.after, Region.binds .any e = true → e.on ≠ i) → o.apart ops oj = true := by
          intro j oj hj hne hl hw
          have hjl : j < ops.size := (Array.getElem?_eq_some_iff.1 hj).1
          have h1 := List.all_eq_true.1 hap j (List.mem_range.2 hjl)
          simp only [hj, Bool.or_eq_true, beq_iff_eq] at h1
          rcases h1 with (h1 | h1) | h1 | h1
          · exact absurd h1 hne
          · rw [hl] at h1; cases h1
          · exfalso
            have : (oj.after.all fun e => !Region.binds .any e || e.on != i) = true := by
              rw [Array.all_eq_true_iff_forall_mem]
              intro e he
              by_cases hb : Region.binds .any e = true
              · have := hw e he hb; simp [this]
              · simp [hb]
            rw [this] at h1; cases h1
          · exact h1
        split at h
        · rename_i hw
          obtain ⟨v, hv, hnx⟩ := h
          refine wpAnyT_first ho hsel hs hc hn hin (fun c a w h => (hQ _ _ _ h).elim) rest.length listed a w inv hapart hmem (.inl ⟨hw, fun w' hw' => rd_run (hv w' hw')⟩) (R.refl w) ?_
          exact run_tailR hsel hQ hs hc hn htl hg rest _ _ w (inv.set hmem hin) hok2 hnx
        · rename_i hw
          refine wpAnyT_first (v := undef) ho hsel hs hc hn hin (fun c a w h => (hQ _ _ _ h).elim) rest.length listed a w inv hapart hmem (.inr ⟨by simpa using hw, rfl⟩) (R.refl w) ?_
          exact run_tailR hsel hQ hs hc hn htl hg rest _ _ w (inv.set hmem hin) hok2 h
/-- the same behind a name that does not unfold -/
structure WR (R : RT) (P : Program) (ops : Array Oper) (Q : Exit → Act → World → Prop) (tail : List Oper) (l : List Nat) (a : Act) (w : World) : Prop where
  out : wpTR R P ops Q tail l a w
theorem wr_rd {tail : List Oper} {i : Nat} {o : Oper} {rest : List Nat} {a : Act} {w : World} (ho : ops[i]? = some o) (hx : isX o = false)
    (h : ∀ K : Act → Prop, (∀ a, WR R P ops Q tail rest a w → K a) → if Region.wanted o (yielded ops a.tmps) then rdOp P o a (R.r w) K else K (a.put o.dst undef)) : WR R P ops Q tail (i :: rest) a w := by
  have := h (fun a => wpTR R P ops Q tail rest a w) (fun _ h => h.out)
  refine ⟨?_⟩
  unfold wpTR
  simp only [ho, hx]
  exact this
theorem wr_ext {tail : List Oper} {i : Nat} {o : Oper} {rest : List Nat} {a : Act} {w : World} (ho : ops[i]? = some o) (hx : isX o = true)
    (h : ∀ K : Act → World → Prop, (∀ a' w', R.r w w' → WR R P ops Q tail rest a' w' → K a' w') → if Region.wanted o (yielded ops a.tmps) then o.wp P a w K Q else K (a.put o.dst undef) w) : WR R P ops Q tail (i :: rest) a w := by
  have := h (fun a' w' => R.r w w' ∧ wpTR R P ops Q tail rest a' w') (fun _ _ h1 h2 => ⟨h1, h2.out⟩)
  refine ⟨?_⟩
  unfold wpTR
  simp only [ho, hx, if_true]
  split
  · rename_i hw; rw [if_pos hw] at this; exact this
  · rename_i hw; rw [if_neg hw] at this; exact this.2
theorem wr_nil {tail : List Oper} {a : Act} {w : World} (h : wpList P ops Q tail a w) : WR R P ops Q tail [] a w := ⟨h⟩
/-- THE RULE: n operations of the head in the order 'perm', then the rest in the order of the text. -/
theorem wp_region_wtR {id : Nat} {l : List Oper} {a : Act} {w : World} (R : RT) (n : Nat) (perm : List Nat) (hm : P.follows .mixedOrders = true) (hs : (l.all fun o => !isSel o) = true)
    (hok : (decide (perm.length = n) && decide (n < l.toArray.size) && Region.sinkB .any l.toArray n && Region.chainB .any l.toArray n && okTailX l.toArray n (l.toArray.size - n) (Array.replicate l.toArray.size false) perm) = true)
    (h : WR R P l.toArray (NoPanic Q) (l.drop n) perm a w.drew) : (Code.region id l.toArray true).wp P Q a w := by
  simp only [Bool.and_eq_true, decide_eq_true_eq] at hok
  obtain ⟨⟨⟨⟨hlen, hn⟩, hsk⟩, hc⟩, hk⟩ := hok
  refine wp_region_noPanic (wp_region_any hm ?_)
  have inv0 : HeadInv .any l.toArray n (Array.replicate l.toArray.size false) :=
    ⟨by simp, fun j oj _ hl => (by rw [getD_replicate_false] at hl; cases hl), fun t _ ht => getD_in (by simpa using ht) (getD_replicate_false _ _)⟩
  have hsel : ∀ (j : Nat) (o : Oper) cs b, l.toArray[j]? = some o → o.op ≠ .select cs b := by
    intro j o cs b hj he
    have hmem : o ∈ l := by
      rw [List.getElem?_toArray] at hj
      exact List.mem_of_getElem? hj
    have := List.all_eq_true.1 hs o hmem
    simp [isSel, he] at this
  have H := run_tailR (R := R) (tail := l.drop n) (g := l.toArray.size - n) hsel (fun c a w h => h) hsk hc hn (fun j => by simp [List.getElem?_drop]) (by simp) perm _ a w.drew inv0 hk h.out
  have := wpAny_of_T _ _ _ _ H
  rw [hlen, show n + (l.toArray.size - n) = l.toArray.size by omega] at this
  exact this
end
/-- a scalar out of a cell -/
theorem run_loadVar_one {P : Program} {w : World} (ty : TypeId) (ad : Addr) (v : Value) (d : TypeDesc) (hu : P.underlying ty = some d) (hd : (match d with | .struct _ | .array _ _ => false | _ => true) = true) (hc : w.cell? ad = some v) :
    (loadVar ty ad).run P w = .ok v w := by
  have hagg : (isAgg ty).run P w = .ok false w := by
    unfold isAgg
    rw [Sem.run_bind, run_underlying hu w]
    cases d <;> simp_all
  simp [loadVar, Sem.run_bind, hagg, hc]
section
variable {P : Program} {ops : Array Oper} {Q : Exit → Act → World → Prop} {S : Nat → Prop} {R : RT}
theorem forall_fr {w : World} {p : Prop} : (∀ w', R.r w w' → p) ↔ p := ⟨fun h => h w (R.refl w), fun h _ _ => h⟩
theorem Fr.cell {w w' : World} (h : Fr S w w') {ad : Addr} {v : Value} (hc : w.cell? ad = some v) (hS : ¬ S ad.block) : w'.cell? ad = some v :=
  (World.cell?_of_block (h.block _ (cell_lt hc) hS)).trans hc
theorem Fr.blk {w w' : World} (h : Fr S w w') {g : Nat} {t : TypeId} {cs : List Value} (hB : Blk w g t cs) (hS : ¬ S g) : Blk w' g t cs := (h.block g hB.lt hS).trans hB
theorem rdOp_ld1 {o : Oper} {a : Act} {C : World → Prop} {next : Act → Prop} (ty : TypeId) (x : Operand) (ho : o.op = .load ty x) {ad : Addr} {v : Value} (hx : a.eval x = .pointer (some ad)) (hc : ∀ w', C w' → w'.cell? ad = some v) (d : TypeDesc)
    (hu : P.underlying ty = some d) (hd : (match d with | .struct _ | .array _ _ => false | _ => true) = true) (h : next (a.put o.dst v)) : rdOp P o a C next := by
  refine ⟨_, fun w' hw' => ?_, h⟩
  unfold rdAt execOp
  simp only [ho, hx, Instr.loadAt, Instr.sureAddr, Sem.run_bind, Sem.run_pure, Result.andThen_ok, run_loadVar_one ty ad v d hu hd (hc w' hw')]
  exact ⟨rfl, rfl⟩
theorem rdOp_ldR {o : Oper} {a : Act} {C : World → Prop} {next : Act → Prop} (ty : TypeId) (x : Operand) (ho : o.op = .load ty x)
    {g off : Nat} {t : TypeId} {whole cs : List Value} (hB : ∀ w', C w' → Blk w' g t whole) (hm : ∀ j v, cs[j]? = some v → whole[off + j]? = some v) (hx : a.eval x = .pointer (some ⟨g, off, none⟩)) (d : TypeDesc)
    (hu : P.underlying ty = some d) (hd : d.isRow = true) (hi : (P.info? ty).map (·.size) = some cs.length)
    (h : next (a.put o.dst (.agg cs.toArray))) : rdOp P o a C next := by
  refine ⟨_, fun w' hw' => ?_, h⟩
  have hr := (hB w' hw').mid off hm
  unfold rdAt execOp
  simp only [ho, hx, Instr.loadAt, Instr.sureAddr, Sem.run_bind, Sem.run_pure, Result.andThen_ok, run_loadVar_mid w' g off ty cs d hr hu hd hi]
  exact ⟨rfl, rfl⟩
theorem wr_ld1 {tail : List Oper} {i : Nat} {o : Oper} {rest : List Nat} {a : Act} {w : World} (hi : ops[i]? = some o) (hw : Region.wanted o (yielded ops a.tmps) = true) (ty : TypeId) (x : Operand) (ho : o.op = .load ty x) {ad : Addr} {v : Value} (hx : a.eval x = .pointer (some ad)) (hc : ∀ w', R.r w w' → w'.cell? ad = some v) (d : TypeDesc)
    (hu : P.underlying ty = some d) (hd : (match d with | .struct _ | .array _ _ => false | _ => true) = true) (h : WR R P ops Q tail rest (a.put o.dst v) w) : WR R P ops Q tail (i :: rest) a w := by
  refine wr_rd hi (by simp [isX, isExt, ho]) fun K hK => ?_
  rw [if_pos hw]
  exact rdOp_ld1 ty x ho hx hc d hu hd (hK _ h)
theorem wmr_ld1 {i : Nat} {o : Oper} {rest : List Nat} {a : Act} {w : World} (hi : ops[i]? = some o) (hw : Region.wanted o (yielded ops a.tmps) = true) (ty : TypeId) (x : Operand) (ho : o.op = .load ty x) {ad : Addr} {v : Value} (hx : a.eval x = .pointer (some ad)) (hc : ∀ w', R.r w w' → w'.cell? ad = some v) (d : TypeDesc)
    (hu : P.underlying ty = some d) (hd : (match d with | .struct _ | .array _ _ => false | _ => true) = true) (h : WMR R P ops Q rest (a.put o.dst v) w) : WMR R P ops Q (i :: rest) a w := by
  refine wmr_rd hi (by simp [isX, isExt, ho]) fun K hK => ?_
  rw [if_pos hw]
  exact rdOp_ld1 ty x ho hx hc d hu hd (hK _ h)
theorem wr_ldR {tail : List Oper} {i : Nat} {o : Oper} {rest : List Nat} {a : Act} {w : World} (hi' : ops[i]? = some o) (hw : Region.wanted o (yielded ops a.tmps) = true) (ty : TypeId) (x : Operand) (ho : o.op = .load ty x)
    {g off : Nat} {t : TypeId} {whole cs : List Value} (hB : ∀ w', R.r w w' → Blk w' g t whole) (hm : ∀ j v, cs[j]? = some v → whole[off + j]? = some v) (hx : a.eval x = .pointer (some ⟨g, off, none⟩)) (d : TypeDesc)
    (hu : P.underlying ty = some d) (hd : d.isRow = true) (hi : (P.info? ty).map (·.size) = some cs.length)
    (h : WR R P ops Q tail rest (a.put o.dst (.agg cs.toArray)) w) : WR R P ops Q tail (i :: rest) a w := by
  refine wr_rd hi' (by simp [isX, isExt, ho]) fun K hK => ?_
  rw [if_pos hw]
  exact rdOp_ldR ty x ho hB hm hx d hu hd hi (hK _ h)
theorem wmr_ldR {i : Nat} {o : Oper} {rest : List Nat} {a : Act} {w : World} (hi' : ops[i]? = some o) (hw : Region.wanted o (yielded ops a.tmps) = true) (ty : TypeId) (x : Operand) (ho : o.op = .load ty x)
    {g off : Nat} {t : TypeId} {whole cs : List Value} (hB : ∀ w', R.r w w' → Blk w' g t whole) (hm : ∀ j v, cs[j]? = some v → whole[off + j]? = some v) (hx : a.eval x = .pointer (some ⟨g, off, none⟩)) (d : TypeDesc)
    (hu : P.underlying ty = some d) (hd : d.isRow = true) (hi : (P.info? ty).map (·.size) = some cs.length)
    (h : WMR R P ops Q rest (a.put o.dst (.agg cs.toArray)) w) : WMR R P ops Q (i :: rest) a w := by
  refine wmr_rd hi' (by simp [isX, isExt, ho]) fun K hK => ?_
  rw [if_pos hw]
  exact rdOp_ldR ty x ho hB hm hx d hu hd hi (hK _ h)
theorem wm_ld1 {i : Nat} {o : Oper} {rest : List Nat} {a : Act} {w : World} (hi : ops[i]? = some o) (hw : Region.wanted o (yielded ops a.tmps) = true) (ty : TypeId) (x : Operand) (ho : o.op = .load ty x) {ad : Addr} {v : Value} (hx : a.eval x = .pointer (some ad)) (hc : w.cell? ad = some v) (d : TypeDesc)
    (hu : P.underlying ty = some d) (hd : (match d with | .struct _ | .array _ _ => false | _ => true) = true) (h : WM P ops Q rest (a.put o.dst v) w) : WM P ops Q (i :: rest) a w := by
  refine wm_rd hi (by simp [isExt, ho]) fun K hK => ?_
  rw [if_pos hw]
  refine ⟨_, fun w' hw' => ?_, hK _ h⟩
  have hc' := (Below.cell (cls_iff.1 hw') (cell_lt hc)).trans hc
  unfold rdAt execOp
  simp only [ho, hx, Instr.loadAt, Instr.sureAddr, Sem.run_bind, Sem.run_pure, Result.andThen_ok, run_loadVar_one ty ad v d hu hd hc']
  exact ⟨rfl, rfl⟩
end
end Go.Gr
namespace Go.Gr
open Go.RowKit Go.Sort
set_option linter.unusedVariables false
section
variable {P : Program} {G : Nat → Prop} {w0 w : World} {L L1 L2 : List As} {ops : Array Oper} {rest : List Oper} {o : Oper} {a : Act} {Q : Exit → Act → World → Prop} {K : Act → World → Prop}
theorem run_storeVar_cell (g i : Nat) (ty : TypeId) (v : Value) (hc : (w.cell? ⟨g, i, none⟩).isSome = true) (hf : w.frozen? ⟨g, i, none⟩ = false) (hi : (P.info? ty).map (·.size) = some 1) (h1 : v.oneCell' = true) :
    (storeVar ty ⟨g, i, none⟩ v).run P w = .ok () (w.setCell ⟨g, i, none⟩ v) := by
  have hj : ∀ {j}, j < [v].length → j = 0 := fun h => by simpa using h
  have := run_storeCells_cells (P := P) g i [v] 0 w (fun j h => by rw [hj h]; simpa using hc) (fun j h => by rw [hj h]; simpa using hf) (fun u hu => by simp at hu; subst hu; exact h1)
  have hcs : v.cells = #[v] := by cases v <;> first | rfl | cases h1
  cases hq : P.info? ty with
  | none => simp [hq] at hi
  | some ii =>
    have hs : ii.size = 1 := by simpa [hq] using hi
    simp only [Nat.add_zero] at this
    simp [storeVar, sizeOf, typeInfo, hq, hcs, hs, this, World.setCells]
/-- a scalar into a cell of a block -/
theorem wp_st1S (L1 : List As) {L2 : List As} {g i : Nat} {t : TypeId} {cs : List Value} (H : Sep G w0 w (L1 ++ As.blk g t cs :: L2)) (ty : TypeId) (x y : Operand) (ho : o.op = .store ty x y)
    {v : Value} (hx : a.eval x = .pointer (some ⟨g, i, none⟩)) (hy : a.eval y = v) (hi : (P.info? ty).map (·.size) = some 1) (hl : i < cs.length) (h1 : v.oneCell' = true)
    (h : ∀ w', Sep G w0 w' (L1 ++ As.blk g t (cs.set i v) :: L2) → Upd g w w' → K (a.put o.dst undef) w') : o.wp P a w K Q := by
  have hB := H.blk (g := g) (e := t) (cs := cs) (by simp)
  have hr := run_storeVar_cell (P := P) (w := w) g i ty v (by rw [hB.cell i, List.getElem?_eq_getElem hl]; rfl) (hB.free i) hi h1
  unfold Oper.wp execOp
  simp only [ho, hx, hy, Instr.storeAt, Instr.sureAddr, Sem.run_bind, Sem.run_pure, Result.andThen_ok, hr]
  exact h _ (H.cell i v) ((Upd.refl g w).cell i v)
theorem wpList_st1S (L1 : List As) {L2 : List As} {g i : Nat} {t : TypeId} {cs : List Value} (H : Sep G w0 w (L1 ++ As.blk g t cs :: L2)) (hgd : o.guard = none) (ty : TypeId) (x y : Operand) (ho : o.op = .store ty x y)
    {v : Value} (hx : a.eval x = .pointer (some ⟨g, i, none⟩)) (hy : a.eval y = v) (hi : (P.info? ty).map (·.size) = some 1) (hl : i < cs.length) (h1 : v.oneCell' = true)
    (h : ∀ w', Sep G w0 w' (L1 ++ As.blk g t (cs.set i v) :: L2) → wpList P ops Q rest (a.put o.dst undef) w') : wpList P ops Q (o :: rest) a w :=
  wpList_plain hgd fun K hK => wp_st1S L1 H ty x y ho hx hy hi hl h1 fun w' H' _ => hK _ _ (h w' H')
/-- a scalar out of a cell -/
theorem wpList_ld1 (hw : Region.wanted o (yielded ops a.tmps) = true) (ty : TypeId) (x : Operand) (ho : o.op = .load ty x) {ad : Addr} {v : Value} (hx : a.eval x = .pointer (some ad)) (hc : w.cell? ad = some v) (d : TypeDesc)
    (hu : P.underlying ty = some d) (hd : (match d with | .struct _ | .array _ _ => false | _ => true) = true) (h : wpList P ops Q rest (a.put o.dst v) w) : wpList P ops Q (o :: rest) a w :=
  wpList_step fun K hK => by
    rw [if_pos hw]
    unfold Oper.wp execOp
    simp only [ho, hx, Instr.loadAt, Instr.sureAddr, Sem.run_bind, Sem.run_pure, Result.andThen_ok, run_loadVar_one ty ad v d hu hd hc]
    exact hK _ _ h
/-- a new variable -/
theorem wpList_alS (H : Sep G w0 w L) (hgd : o.guard = none) (ty : TypeId) (ho : o.op = .alloc ty) (cs : List Value) (hz : (P.info? ty).map (fun i => i.zero.map (·.cells)) = some (some cs.toArray))
    (h : ∀ w', w'.heap.size = w.heap.size + 1 → Sep G w0 w' (As.blk w.heap.size ty cs :: L) → wpList P ops Q rest (a.put o.dst (.pointer (some ⟨w.heap.size, 0, none⟩))) w') : wpList P ops Q (o :: rest) a w := by
  refine wpList_plain hgd fun K hK => ?_
  unfold Oper.wp execOp
  cases hq : P.info? ty with
  | none => simp [hq] at hz
  | some ii =>
    cases hq2 : ii.zero with
    | none => simp [hq, hq2] at hz
    | some z =>
      have hzc : z.cells = cs.toArray := by simpa [hq, hq2] using hz
      have hr : (zeroValue ty).run P w = .ok z w := by simp [zeroValue, typeInfo, hq, hq2]
      simp only [ho, Instr.alloc, Sem.run_bind, hr, Result.andThen_ok, newVar, newRow, hzc]
      exact hK _ _ (h _ (by simp) (H.newB ((Ext.refl w).alloc (.cells cs.toArray ty)) (Blk.new w ty cs) (Nat.le_refl _)))
end
end Go.Gr
namespace Go.Gr
open Go.RowKit
set_option linter.unusedVariables false

/-- what one cell of an argument is -/
inductive Lf where
  | int (k : IntKind)
  | bool
  | str
  | slice (e : TypeId)

/-- these cells can be read as data of this type -/
def Rdt (P : Program) (w : World) (t : TypeId) (cs : List Value) : Prop :=
  ∃ (H : Type) (enc : TypeId × Value → H) (base : Nat) (spare : Nat → Bool) (held : Bool) (fuel : Nat) (x : DataW H × List MemPlace), DataW.trod enc P w base spare held fuel t cs = some x

theorem add_add' (a : Addr) (i j : Nat) : (a.add i).add j = a.add (i + j) := by
  unfold Addr.add
  by_cases hi : i = 0 <;> by_cases hj : j = 0 <;> simp [hi, hj, Nat.add_assoc]
def LfOk (P : Program) (w : World) : Lf → Value → Prop
  | .int k, v => ∃ n, v = .int k n ∧ (Lit.int k n).wf = true
  | .bool, v => ∃ b, v = .bool b
  | .str, v => ∃ s, v = .string s ∧ s.size ≤ maxLen
  | .slice e, v => v = .slice none 0 0 ∨ ∃ (a : Addr) (len cap : Nat), v = .slice (some a) len cap ∧ len ≤ cap ∧ cap ≤ maxLen ∧
      ∀ i, i < len → ∃ cs, cs.length = P.cellsOf e ∧ Rdt P w e cs ∧ ∀ j, j < P.cellsOf e → w.cell? (a.add (i * P.cellsOf e + j)) = cs[j]?

def Lvs (P : Program) (w : World) : List Lf → List Value → Prop
  | [], [] => True
  | l :: L, v :: V => LfOk P w l v ∧ Lvs P w L V
  | _, _ => False

def flatFields (f : TypeId → Option (List Lf)) (cells : TypeId → Nat) : List Field → Nat → Option (List Lf)
  | [], _ => some []
  | x :: r, off =>
    match f x.type with
    | some L => if x.offset = off ∧ cells x.type = L.length then (flatFields f cells r (off + L.length)).map (L ++ ·) else none
    | none => none
def flatArr (L : List Lf) : Nat → List Lf
  | 0 => []
  | n + 1 => L ++ flatArr L n
def flat (P : Program) : Nat → TypeId → Option (List Lf)
  | 0, _ => none
  | n + 1, t =>
    match P.underlying t with
    | some .bool => some [.bool]
    | some (.int k) => some [.int k]
    | some .string => some [.str]
    | some (.slice e) => some [.slice e]
    | some (.struct fs) =>
      match flatFields (flat P n) P.cellsOf fs.toList 0 with
      | some L => if P.cellsOf t = L.length then some L else none
      | none => none
    | some (.array m e) =>
      match flat P n e with
      | some L => if P.cellsOf e = L.length ∧ P.cellsOf t = (flatArr L m).length then some (flatArr L m) else none
      | none => none
    | _ => none

section
variable {P : Program} {w : World}
theorem Lvs.len : ∀ {L : List Lf} {V : List Value}, Lvs P w L V → V.length = L.length
  | [], [], _ => rfl
  | [], _ :: _, h => h.elim
  | _ :: _, [], h => h.elim
  | _ :: L, _ :: V, h => by simp [h.2.len]
theorem Lvs.append : ∀ {L M : List Lf} {V U : List Value}, Lvs P w L V → Lvs P w M U → Lvs P w (L ++ M) (V ++ U)
  | [], _, [], _, _, h => h
  | [], _, _ :: _, _, h, _ => h.elim
  | _ :: _, _, [], _, h, _ => h.elim
  | _ :: _, _, _ :: _, _, h, k => ⟨h.1, h.2.append k⟩
theorem fields_ok {f : TypeId → Option (List Lf)} {cs : List Value} :
    ∀ (fs : List Field) (off : Nat) (L : List Lf), flatFields f P.cellsOf fs off = some L →
      (∀ x ∈ fs, ∀ M, f x.type = some M → Lvs P w M ((cs.drop x.offset).take (P.cellsOf x.type))) → off + L.length = cs.length → Lvs P w L (cs.drop off)
  | [], off, L, h, _, hl => by
    simp only [flatFields, Option.some.injEq] at h
    subst h
    rw [List.drop_of_length_le (by simp at hl; omega)]
    trivial
  | x :: r, off, L, h, hx, hl => by
    unfold flatFields at h
    split at h
    · rename_i M hM
      split at h
      · rename_i hc
        obtain ⟨h1, h2⟩ := hc
        cases hr : flatFields f P.cellsOf r (off + M.length) with
        | none => rw [hr] at h; cases h
        | some R =>
          rw [hr] at h
          simp only [Option.map_some, Option.some.injEq] at h
          subst h
          have ih := fields_ok r (off + M.length) R hr (fun y hy => hx y (List.mem_cons_of_mem _ hy)) (by rw [← hl, List.length_append]; omega)
          have h3 := hx x (List.mem_cons_self) M hM
          rw [h1, h2] at h3
          have := h3.append ih
          rwa [← List.drop_drop, List.take_append_drop] at this
      · cases h
    · cases h
theorem arr_ok {L : List Lf} {cs : List Value} : ∀ (n k : Nat), (∀ i, k ≤ i → i < k + n → Lvs P w L ((cs.drop (i * L.length)).take L.length)) → k * L.length + (flatArr L n).length = cs.length →
    Lvs P w (flatArr L n) (cs.drop (k * L.length))
  | 0, k, _, hl => by
    rw [List.drop_of_length_le (by simp [flatArr] at hl; omega)]
    trivial
  | n + 1, k, h, hl => by
    have ih := arr_ok (L := L) (cs := cs) n (k + 1) (fun i h1 h2 => h i (by omega) (by omega)) (by rw [← hl, flatArr, List.length_append, Nat.add_mul]; omega)
    have h1 := h k (Nat.le_refl _) (by omega)
    have := h1.append ih
    rw [flatArr]
    rwa [Nat.add_mul, Nat.one_mul, ← List.drop_drop, List.take_append_drop] at this
theorem flat_ok : ∀ (n : Nat) (t : TypeId) (L : List Lf), flat P n t = some L → ∀ (cs : List Value), Rdt P w t cs → Lvs P w L cs
  | 0, _, _, h, _, _ => by cases h
  | n + 1, t, L, h, cs, hr => by
    obtain ⟨H, enc, base, spare, held, fuel, x, hx⟩ := hr
    unfold flat at h
    split at h
    · rename_i ht
      cases h
      obtain ⟨b, rfl, _⟩ := DataW.trod_bool ht hx
      exact ⟨⟨b, rfl⟩, trivial⟩
    · rename_i k ht
      cases h
      obtain ⟨m, rfl, _, hw⟩ := DataW.trod_int ht hx
      exact ⟨⟨m, rfl, hw⟩, trivial⟩
    · rename_i ht
      cases h
      obtain ⟨s, rfl, _, hs⟩ := DataW.trod_string ht hx
      exact ⟨⟨s, rfl, hs⟩, trivial⟩
    · rename_i e ht
      cases h
      rcases DataW.trod_slice ht hx with ⟨rfl, _⟩ | ⟨a, len, cap, elems, rest, m, _, rfl, _, _, hl, hm, hel, hi, _⟩
      · exact ⟨.inl rfl, trivial⟩
      · refine ⟨.inr ⟨a, len, cap, rfl, hl, hm, fun i him => ?_⟩, trivial⟩
        have h1 := hi i him
        have h2 : elems[i]? = some (elems[i]'(by omega)) := List.getElem?_eq_getElem (by omega)
        rw [h2] at h1
        obtain ⟨cs', h3, h4⟩ := Option.bind_eq_some_iff.1 h1
        obtain ⟨_, h5, h6⟩ := World.cells?_some h3
        exact ⟨cs', h5, ⟨H, enc, base, spare, held, m, _, h4⟩, fun j hj => by rw [← add_add']; exact h6 j hj⟩
    · rename_i fs ht
      split at h
      · rename_i M hM
        split at h
        · rename_i hc
          cases h
          obtain ⟨xs, m, _, _, hlen, hxl, hf⟩ := DataW.trod_struct ht hx
          have := fields_ok (P := P) (w := w) (cs := cs) fs.toList 0 _ hM (fun f hfm N hN => by
            obtain ⟨i, hi⟩ := List.getElem?_of_mem hfm
            have hi2 : fs[i]? = some f := by rw [← Array.getElem?_toList]; exact hi
            have h1 := hf i f hi2
            have hlt : i < fs.size := (Array.getElem?_eq_some_iff.1 hi2).1
            have h2 : xs[i]? = some (xs[i]'(by omega)) := List.getElem?_eq_getElem (by omega)
            rw [h2] at h1
            exact flat_ok n f.type N hN _ ⟨H, enc, base, spare, held, m, _, h1⟩) (by omega)
          simpa using this
        · cases h
      · cases h
    · rename_i m e ht
      split at h
      · rename_i M hM
        split at h
        · rename_i hc
          cases h
          obtain ⟨xs, m', _, _, hlen, hxl, hf⟩ := DataW.trod_array ht hx
          have := arr_ok (P := P) (w := w) (L := M) (cs := cs) m 0 (fun i _ hi => by
            have h1 := hf i (by omega)
            have h2 : xs[i]? = some (xs[i]'(by omega)) := List.getElem?_eq_getElem (by omega)
            rw [h2, hc.1] at h1
            exact flat_ok n e M hM _ ⟨H, enc, base, spare, held, m', _, h1⟩) (by omega)
          simpa using this
        · cases h
      · cases h
    · cases h

section
variable {H : Type} {enc : TypeId × Value → H} {base : Nat} {spare : Nat → Bool} {held : Bool} {r : Reach} {b0 : Nat} {t : TypeId} {v : Value} {d : DataW H} {ps : List MemPlace}
theorem reads_of (h : DataW.Trod enc P w base spare held t v d ps) : Rdt P w t v.cells.toList := by
  obtain ⟨fuel, hf⟩ := h
  exact ⟨H, enc, base, spare, held, fuel, _, hf⟩
theorem arg_int {k : IntKind} (ht : P.underlying t = some (.int k)) (hval : Value.okWide P w r b0 t v) (h : DataW.Trod enc P w base spare held t v d ps) :
    ∃ n, v = .int k n ∧ (Lit.int k n).wf = true := by
  obtain ⟨n, rfl⟩ := WideShapes.okWide_int ht hval
  have := flat_ok 1 t [.int k] (by simp [flat, ht]) _ (reads_of h)
  obtain ⟨⟨m, e, hw⟩, _⟩ := this
  cases e
  exact ⟨n, rfl, hw⟩
theorem arg_bool (ht : P.underlying t = some .bool) (hval : Value.okWide P w r b0 t v) : ∃ b, v = .bool b := WideShapes.okWide_bool ht hval
theorem arg_string (ht : P.underlying t = some .string) (hval : Value.okWide P w r b0 t v) (h : DataW.Trod enc P w base spare held t v d ps) : ∃ s, v = .string s ∧ s.size ≤ maxLen := by
  obtain ⟨n, rfl⟩ := WideShapes.okWide_string ht hval
  have := flat_ok 1 t [.str] (by simp [flat, ht]) _ (reads_of h)
  obtain ⟨⟨m, e, hw⟩, _⟩ := this
  cases e
  exact ⟨n, rfl, hw⟩
theorem arg_slice {e : TypeId} (ht : P.underlying t = some (.slice e)) (hval : Value.okWide P w r b0 t v) (h : DataW.Trod enc P w base spare held t v d ps) : LfOk P w (.slice e) v := by
  obtain ⟨a, len, cap, rfl⟩ := WideShapes.okWide_slice ht hval
  exact (flat_ok 1 t [.slice e] (by simp [flat, ht]) _ (reads_of h)).1
theorem arg_agg {fs : Array Field} {L : List Lf} {n : Nat} (ht : P.underlying t = some (.struct fs)) (hf : flat P n t = some L) (hval : Value.okWide P w r b0 t v) (h : DataW.Trod enc P w base spare held t v d ps) :
    ∃ cs, v = .agg cs ∧ Lvs P w L cs.toList := by
  obtain ⟨cs, rfl, _⟩ := WideShapes.okWide_struct ht hval
  exact ⟨cs, rfl, flat_ok n t L hf _ (reads_of h)⟩
theorem arg_arr {m : Nat} {e : TypeId} {L : List Lf} {n : Nat} (ht : P.underlying t = some (.array m e)) (hf : flat P n t = some L) (hval : Value.okWide P w r b0 t v) (h : DataW.Trod enc P w base spare held t v d ps) :
    ∃ cs, v = .agg cs ∧ Lvs P w L cs.toList := by
  have h2 := reads_of h
  simp only [Value.okWide, ht] at hval
  obtain ⟨cs, rfl, _⟩ := hval
  exact ⟨cs, rfl, flat_ok n t L hf _ h2⟩
end
/-- the parts of a struct or array, cell by cell -/
theorem Lvs.cons {l : Lf} {L : List Lf} {V : List Value} (h : Lvs P w (l :: L) V) : ∃ v U, V = v :: U ∧ LfOk P w l v ∧ Lvs P w L U := by
  cases V with
  | nil => exact h.elim
  | cons v U => exact ⟨v, U, rfl, h.1, h.2⟩
theorem Lvs.nil_ {V : List Value} (h : Lvs P w [] V) : V = [] := by
  cases V with
  | nil => rfl
  | cons v U => exact h.elim
theorem wf_i64 {n : Int} (h : (Lit.int .i64 n).wf = true) : -9223372036854775808 ≤ n ∧ n ≤ 9223372036854775807 := by
  simpa [Lit.wf, IntKind.min, IntKind.max, IntKind.signed, IntKind.bits] using h
theorem wf_i32 {n : Int} (h : (Lit.int .i32 n).wf = true) : -2147483648 ≤ n ∧ n ≤ 2147483647 := by
  simpa [Lit.wf, IntKind.min, IntKind.max, IntKind.signed, IntKind.bits] using h
theorem wf_u64 {n : Int} (h : (Lit.int .u64 n).wf = true) : 0 ≤ n ∧ n < 18446744073709551616 := by
  have : 0 ≤ n ∧ n ≤ 18446744073709551615 := by simpa [Lit.wf, IntKind.min, IntKind.max, IntKind.signed, IntKind.bits] using h
  omega
theorem wf_u32 {n : Int} (h : (Lit.int .u32 n).wf = true) : 0 ≤ n ∧ n < 4294967296 := by
  have : 0 ≤ n ∧ n ≤ 4294967295 := by simpa [Lit.wf, IntKind.min, IntKind.max, IntKind.signed, IntKind.bits] using h
  omega
theorem wf_u8 {n : Int} (h : (Lit.int .u8 n).wf = true) : 0 ≤ n ∧ n < 256 := by
  have : 0 ≤ n ∧ n ≤ 255 := by simpa [Lit.wf, IntKind.min, IntKind.max, IntKind.signed, IntKind.bits] using h
  omega
/-- a slice of integers that came in -/
theorem slice_ints {e : TypeId} {k : IntKind} {v : Value} (he : P.underlying e = some (.int k)) (hc : P.cellsOf e = 1) (h : LfOk P w (.slice e) v) :
    ∃ (A : Option Addr) (l : List Int) (c : Nat), v = .slice A l.length c ∧ (∀ j u, (l.map (Value.int k))[j]? = some u → ∃ ad, A = some ad ∧ w.cell? (ad.add j) = some u) ∧ (∀ x ∈ l, (Lit.int k x).wf = true) ∧ l.length ≤ c ∧ c ≤ maxLen := by
  rcases h with rfl | ⟨a, len, cap, rfl, hl, hm, hi⟩
  · exact ⟨none, [], 0, rfl, fun j u h => by simp at h, fun x h => (by cases h), Nat.le_refl _, Nat.zero_le _⟩
  · have key : ∀ i, i < len → ∃ n, w.cell? (a.add i) = some (.int k n) ∧ (Lit.int k n).wf = true := fun i hlt => by
      obtain ⟨cs, h1, h2, h3⟩ := hi i hlt
      rw [hc] at h1 h3
      obtain ⟨v, U, rfl, ⟨n, rfl, hw⟩, hU⟩ := (flat_ok 1 e [.int k] (by simp [flat, he]) cs h2).cons
      refine ⟨n, ?_, hw⟩
      have := h3 0 (by decide)
      simpa using this
    have hex : ∃ f : Nat → Int, ∀ i, i < len → w.cell? (a.add i) = some (.int k (f i)) ∧ (Lit.int k (f i)).wf = true :=
      ⟨fun i => if h : i < len then (key i h).choose else 0, fun i h => by simp only [dif_pos h]; exact (key i h).choose_spec⟩
    obtain ⟨f, hf⟩ := hex
    refine ⟨some a, (List.range len).map f, cap, by simp, fun j u hu => ?_, fun x hx => ?_, by simpa using hl, hm⟩
    · rw [List.map_map, List.getElem?_map] at hu
      rcases Nat.lt_or_ge j len with hj | hj
      · rw [List.getElem?_range hj] at hu
        simp only [Option.map_some, Function.comp, Option.some.injEq] at hu
        exact ⟨a, rfl, by rw [(hf j hj).1, hu]⟩
      · rw [List.getElem?_eq_none (by simpa using hj)] at hu; cases hu
    · obtain ⟨i, hi', rfl⟩ := List.mem_map.1 hx
      exact (hf i (by simpa using hi')).2
end
end Go.Gr
namespace Go.Gr
open Go.RowKit
set_option linter.unusedVariables false
section
variable {P : Program} {w w' : World}
/-- the slice that begins at A holds these rows of k cells each -/
def RdM (w : World) (A : Option Addr) (k : Nat) (rows : List (List Value)) : Prop :=
  ∀ (i : Nat) r, rows[i]? = some r → ∃ ad, A = some ad ∧ ∀ (j : Nat) u, r[j]? = some u → w.cell? (ad.add (i * k + j)) = some u
theorem RdM.ext {A : Option Addr} {k : Nat} {rows : List (List Value)} (h : RdM w A k rows) (x : Ext w w') : RdM w' A k rows := fun i r hr => by
  obtain ⟨ad, e, hc⟩ := h i r hr
  refine ⟨ad, e, fun j u hu => ?_⟩
  have := hc j u hu
  exact (Below.cell x (cell_lt this)).trans this
theorem RdM.at_ {A : Option Addr} {k : Nat} {rows : List (List Value)} (h : RdM w A k rows) (hne : ∀ r ∈ rows, 0 < r.length) {i : Nat} {r : List Value} (hr : rows[i]? = some r) :
    ∃ b off, A = some ⟨b, off, none⟩ ∧ ∀ (j : Nat) u, r[j]? = some u → w.cell? ⟨b, off + i * k + j, none⟩ = some u := by
  obtain ⟨⟨b, off, spot⟩, rfl, hc⟩ := h i r hr
  have hs : spot = none := by
    have hi : i < rows.length := by
      rcases Nat.lt_or_ge i rows.length with h3 | h3
      · exact h3
      · rw [List.getElem?_eq_none h3] at hr; cases hr
    have h0 : rows[0]? = some rows[0] := List.getElem?_eq_getElem (by omega)
    obtain ⟨ad', e, hc'⟩ := h 0 _ h0
    cases e
    have h1 := hc' 0 _ (List.getElem?_eq_getElem (hne _ (List.getElem_mem _)))
    have h2 := World.cell?_spot h1
    simpa [Addr.add] using h2
  subst hs
  refine ⟨b, off, rfl, fun j u hu => ?_⟩
  have := hc j u hu
  rw [Go.WideShapes.add_plain, ← Nat.add_assoc] at this
  exact this
theorem lvs_pos {L : List Lf} {rows : List (List Value)} (h : ∀ r ∈ rows, Lvs P w L r) (h0 : 0 < L.length) : ∀ r ∈ rows, 0 < r.length := fun r hr => by rw [(h r hr).len]; exact h0
theorem slice_lvs {e : TypeId} {v : Value} {L : List Lf} (n : Nat) (hf : flat P n e = some L) (hc : P.cellsOf e = L.length) (h : LfOk P w (.slice e) v) :
    ∃ (A : Option Addr) (rows : List (List Value)) (c : Nat), v = .slice A rows.length c ∧ RdM w A L.length rows ∧ (∀ r ∈ rows, Lvs P w L r) ∧ rows.length ≤ c ∧ c ≤ maxLen := by
  rcases h with rfl | ⟨a, len, cap, rfl, hl, hm, hi⟩
  · exact ⟨none, [], 0, rfl, fun i r h => by simp at h, fun x h => (by cases h), Nat.le_refl _, Nat.zero_le _⟩
  · have key : ∀ i, i < len → ∃ cs : List Value, Lvs P w L cs ∧ ∀ (j : Nat) u, cs[j]? = some u → w.cell? (a.add (i * L.length + j)) = some u := fun i hlt => by
      obtain ⟨cs, h1, h2, h3⟩ := hi i hlt
      rw [hc] at h1 h3
      refine ⟨cs, flat_ok n e L hf cs h2, fun j u hu => ?_⟩
      have hj : j < L.length := by
        rcases Nat.lt_or_ge j L.length with h | h
        · exact h
        · rw [List.getElem?_eq_none (by omega)] at hu; cases hu
      exact (h3 j hj).trans hu
    have hex : ∃ f : Nat → List Value, ∀ i, i < len → Lvs P w L (f i) ∧ ∀ (j : Nat) u, (f i)[j]? = some u → w.cell? (a.add (i * L.length + j)) = some u :=
      ⟨fun i => if h : i < len then (key i h).choose else [], fun i h => by simp only [dif_pos h]; exact (key i h).choose_spec⟩
    obtain ⟨f, hf'⟩ := hex
    refine ⟨some a, (List.range len).map f, cap, by simp, fun i r hr => ?_, fun r hr => ?_, by simpa using hl, hm⟩
    · rw [List.getElem?_map] at hr
      rcases Nat.lt_or_ge i len with hj | hj
      · rw [List.getElem?_range hj] at hr
        simp only [Option.map_some, Option.some.injEq] at hr
        subst hr
        exact ⟨a, rfl, (hf' i hj).2⟩
      · rw [List.getElem?_eq_none (by simpa using hj)] at hr; cases hr
    · obtain ⟨i, hi', rfl⟩ := List.mem_map.1 hr
      exact (hf' i (by simpa using hi')).1
/-- elements of one cell -/
theorem slice_lf {e : TypeId} {v : Value} {l : Lf} (n : Nat) (hf : flat P n e = some [l]) (hc : P.cellsOf e = 1) (h : LfOk P w (.slice e) v) :
    ∃ (A : Option Addr) (xs : List Value) (c : Nat), v = .slice A xs.length c ∧ Rd w A xs ∧ (∀ x ∈ xs, LfOk P w l x) ∧ xs.length ≤ c ∧ c ≤ maxLen := by
  obtain ⟨A, rows, c, rfl, h1, h2, h3, h4⟩ := slice_lvs n hf (by simpa using hc) h
  have hone : ∀ r ∈ rows, ∃ x, r = [x] ∧ LfOk P w l x := fun r hr => by
    obtain ⟨x, U, rfl, hx, hU⟩ := (h2 r hr).cons
    exact ⟨x, by rw [Lvs.nil_ hU], hx⟩
  refine ⟨A, rows.map fun r => r.headD undef, c, by simp, fun j u hu => ?_, fun x hx => ?_, by simpa using h3, h4⟩
  · rw [List.getElem?_map] at hu
    cases hr : rows[j]? with
    | none => rw [hr] at hu; cases hu
    | some r =>
      rw [hr] at hu
      obtain ⟨x, rfl, _⟩ := hone r (List.mem_of_getElem? hr)
      obtain ⟨ad, e, hc'⟩ := h1 j _ hr
      refine ⟨ad, e, ?_⟩
      have := hc' 0 x rfl
      simp at hu
      subst hu
      simpa using this
  · obtain ⟨r, hr, rfl⟩ := List.mem_map.1 hx
    obtain ⟨x, rfl, hx2⟩ := hone r hr
    exact hx2
theorem LfOk.ext {l : Lf} {v : Value} {e : TypeId} (A : Option Addr) (xs : List Value) (h : Rd w A xs) (k : Ext w w') : Rd w' A xs := h.ext k
end
end Go.Gr
namespace Go.Gr
open Go.RowKit Go.Sort
set_option linter.unusedVariables false
theorem flatten_get {k : Nat} : ∀ {rows : List (List Value)}, (∀ r ∈ rows, r.length = k) → ∀ (i j : Nat) {r : List Value} {u : Value}, rows[i]? = some r → r[j]? = some u → rows.flatten[i * k + j]? = some u
  | [], _, i, j, r, u, hr, _ => by simp at hr
  | a :: rows, h, 0, j, r, u, hr, hu => by
    simp only [List.getElem?_cons_zero, Option.some.injEq] at hr
    subst hr
    rw [List.flatten_cons, Nat.zero_mul, Nat.zero_add, List.getElem?_append_left]
    · exact hu
    · rcases Nat.lt_or_ge j a.length with h1 | h1
      · exact h1
      · rw [List.getElem?_eq_none h1] at hu; cases hu
  | a :: rows, h, i + 1, j, r, u, hr, hu => by
    rw [List.getElem?_cons_succ] at hr
    have ha := h a (by simp)
    rw [List.flatten_cons, List.getElem?_append_right (by rw [ha, Nat.add_mul]; omega)]
    have := flatten_get (rows := rows) (fun x hx => h x (by simp [hx])) i j hr hu
    rw [ha, show (i + 1) * k + j - k = i * k + j by rw [Nat.add_mul]; omega]
    exact this
theorem flatten_len {k : Nat} : ∀ {rows : List (List Value)}, (∀ r ∈ rows, r.length = k) → rows.flatten.length = rows.length * k
  | [], _ => by simp
  | a :: rows, h => by
    rw [List.flatten_cons, List.length_append, flatten_len (fun x hx => h x (by simp [hx])), h a (by simp), List.length_cons, Nat.add_mul]; omega
/-- v is a slice of these rows of k cells, of the call's own -/
structure OwnM (w : World) (e : TypeId) (k : Nat) (v : Value) (rows : List (List Value)) : Prop where
  row : w.ownsRow 0 e k v rows.length rows.flatten
  len : ∀ r ∈ rows, r.length = k
theorem OwnM.nil (w : World) (e : TypeId) (k : Nat) : OwnM w e k (.slice none 0 0) [] := ⟨World.ownsRow_nil _ _ _ _, by simp⟩
theorem OwnM.form {w : World} {e : TypeId} {k : Nat} {v : Value} {rows : List (List Value)} (h : OwnM w e k v rows) :
    ∃ A c, v = .slice A rows.length c ∧ RdM w A k rows ∧ rows.length ≤ c ∧ (∀ ad, A = some ad → ∃ g, ad = ⟨g, 0, none⟩) := by
  obtain ⟨hrow, hlen⟩ := h
  rcases hrow.2 with ⟨rfl, h0⟩ | ⟨g, cap, cur, rfl, hb, hh, hn, hc, hs, hx⟩
  · have : rows = [] := List.eq_nil_of_length_eq_zero h0
    subst this
    exact ⟨none, 0, rfl, fun i r h => by simp at h, Nat.le_refl _, fun g h => by cases h⟩
  · refine ⟨_, _, rfl, fun i r hr => ⟨_, rfl, fun j u hu => ?_⟩, hn, fun ad h => ⟨g, by cases h; rfl⟩⟩
    have hadd : (⟨g, 0, none⟩ : Addr).add (i * k + j) = ⟨g, i * k + j, none⟩ := by unfold Addr.add; split <;> simp_all
    rw [hadd]
    simp only [World.cell?, hh]
    have h2 := flatten_get hlen i j hr hu
    rw [← hx] at h2
    rw [List.getElem?_take] at h2
    split at h2
    · simpa using h2
    · cases h2
def As.ownM (e : TypeId) (k : Nat) (v : Value) (rows : List (List Value)) : As :=
  ⟨fun i => v.ownBlock = some i, fun w => OwnM w e k v rows, fun h i hi => (World.ownsRow.lt h.row i hi).2, fun h k' => by
    refine ⟨⟨h.row.1, ?_⟩, h.len⟩
    rcases h.row.2 with h0 | ⟨g, cap, cur, rfl, hb, hh, r⟩
    · exact .inl h0
    · exact .inr ⟨g, cap, cur, rfl, hb, by rw [k' g rfl]; exact hh, r⟩⟩
section
variable {P : Program} {G : Nat → Prop} {w0 w w' : World} {L L1 L2 : List As} {ops : Array Oper} {rest : List Oper} {o : Oper} {a : Act} {Q : Exit → Act → World → Prop}
theorem Sep.nilM (e : TypeId) (k : Nat) (h : Sep G w0 w L) : Sep G w0 w (As.ownM e k (.slice none 0 0) [] :: L) := h.new (B := As.ownM e k (.slice none 0 0) []) (Ext.refl w) (OwnM.nil _ _ _) (fun i hi => by cases hi)
theorem Sep.ownsM {e : TypeId} {k : Nat} {v : Value} {rows : List (List Value)} (h : Sep G w0 w L) (hA : As.ownM e k v rows ∈ L) : OwnM w e k v rows := h.get hA
/-- new boxes -/
theorem Sep.add (H : Sep G w0 w L) (e : TypeId) (cs : List Value) : Sep G w0 (w.alloc (.cells cs.toArray e)) (As.blk w.heap.size e cs :: L) := H.newB ((Ext.refl w).alloc (.cells cs.toArray e)) (Blk.new w e cs) (Nat.le_refl _)
theorem Sep.add2 (H : Sep G w0 w L) (e1 e2 : TypeId) (c1 c2 : List Value) : Sep G w0 ((w.alloc (.cells c1.toArray e1)).alloc (.cells c2.toArray e2)) (As.blk (w.heap.size + 1) e2 c2 :: As.blk w.heap.size e1 c1 :: L) := by
  have h := (H.add e1 c1).add e2 c2
  rwa [show (w.alloc (.cells c1.toArray e1)).heap.size = w.heap.size + 1 by simp] at h
/-- what a grown row is, without the whole of memory -/
structure Grew (w w' : World) (v v' : Value) : Prop where
  fr : Fr (fun k => v.ownBlock = some k) w w'
  own : ∀ k, v'.ownBlock = some k → v.ownBlock = some k ∨ w.heap.size ≤ k
theorem Grew.same {v : Value} (h : Ext w w') : Grew w w' v v := ⟨(Fr.of_ext h).mono (fun _ h => h.elim), fun k hk => .inl hk⟩
theorem Grew.ext_left {v v' : Value} {w1 : World} (h : Ext w w1) (k : Grew w1 w' v v') : Grew w w' v v' :=
  ⟨((Fr.of_ext h).mono (fun _ h => h.elim)).trans k.fr, fun i hi => (k.own i hi).elim .inl (fun h2 => .inr (Nat.le_trans h.size h2))⟩
theorem Grew.ext_right {v v' : Value} {w1 : World} (k : Grew w w1 v v') (h : Ext w1 w') : Grew w w' v v' :=
  ⟨k.fr.trans ((Fr.of_ext h).mono (fun _ h => h.elim)), k.own⟩
theorem Sep.grewM (L1 : List As) {L2 : List As} {e : TypeId} {k : Nat} {v v' : Value} {rows rows' : List (List Value)} (H : Sep G w0 w (L1 ++ As.ownM e k v rows :: L2)) (g : Grew w w' v v') (h : OwnM w' e k v' rows') : Sep G w0 w' (L1 ++ As.ownM e k v' rows' :: L2) :=
  H.upd (A := As.ownM e k v rows) (B := As.ownM e k v' rows') g.fr (fun _ h => h) h g.own
/-- append of one row onto a slice of the call's own -/
theorem run_append_rowM (t ty e : TypeId) (i : TypeInfo) (z : Value) (k bytes : Nat) (ht : P.underlying t = some (.slice e)) (hi : P.info? e = some i) (hz : i.zero = some z)
    (hsize : i.size = k) (hby : i.bytes = bytes) (hzs : z.cells.size = k) (hsz : 0 < k)
    {v : Value} {rows : List (List Value)} (hown : OwnM w e k v rows) (A : Option Addr) (c : Nat) (r : List Value) (hl : r.length = k) (hr : Rd w A r)
    (h1 : ∀ u ∈ r, u.oneCell' = true) (hn : rows.length < 100000) (hb : bytes ≤ 1000) :
    ∃ v' w', (Builtin.append_ #[t, t] ty #[v, .slice A 1 c]).run P w = .ok v' w' ∧ OwnM w' e k v' (rows ++ [r]) ∧ Grew w w' v v' := by
  have hbb : (rows.length + 1) * bytes ≤ 100000 * 1000 := Nat.mul_le_mul hn hb
  obtain ⟨v', w', hrun, h2, h3, h4⟩ := run_append_sep (P := P) (w := w) t ty e i z k bytes ht hi hz hsize hby hzs hsz v rows.length rows.flatten hown.row A 1 c r (by rw [hl, Nat.one_mul]) hr h1 (by unfold maxLen; omega) (by omega)
  refine ⟨v', w', hrun, ⟨?_, ?_⟩, ⟨⟨h3.os, h3.tape, h3.output, h3.size, fun k hk hn => h3.block k hk (fun e => hn e.symm)⟩, h4⟩⟩
  · rw [List.length_append, List.flatten_append]; simpa using h2
  · intro x hx
    rcases List.mem_append.1 hx with hx | hx
    · exact hown.len x hx
    · rw [List.mem_singleton] at hx; subst hx; exact hl
theorem wpList_apM (hgd : o.guard = none) (s x : Operand) (t : TypeId)
    (ho : o.op = .call { callee := .builtin .append, args := #[s, x], argTypes := #[t, t] })
    (e : TypeId) (i : TypeInfo) (z : Value) (k bytes : Nat) (ht : P.underlying t = some (.slice e)) (hi : P.info? e = some i) (hz : i.zero = some z)
    (hsize : i.size = k) (hby : i.bytes = bytes) (hzs : z.cells.size = k) (hsz : 0 < k)
    {v : Value} {rows : List (List Value)} (hs : a.eval s = v) (hown : OwnM w e k v rows) {A : Option Addr} {c : Nat} {r : List Value} (hx : a.eval x = .slice A 1 c) (hl : r.length = k) (hr : Rd w A r)
    (h1 : ∀ u ∈ r, u.oneCell' = true) (hn : rows.length < 100000) (hb : bytes ≤ 1000)
    (h : ∀ v' w', OwnM w' e k v' (rows ++ [r]) → Grew w w' v v' → wpList P ops Q rest (a.put o.dst v') w') : wpList P ops Q (o :: rest) a w :=
  wpList_plain hgd fun K hK => by
    obtain ⟨v', w', hrun, h2, h3⟩ := run_append_rowM (P := P) (w := w) t o.type e i z k bytes ht hi hz hsize hby hzs hsz hown A c r hl hr h1 hn hb
    unfold Oper.wp execOp
    simp only [ho, resolve, invoke, builtin, Sem.run_bind, Sem.run_pure, Result.andThen_ok, List.map_toArray, List.map_cons, List.map_nil, hs, hx, hrun]
    exact hK _ _ (h v' w' h2 h3)
/-- these cells lie there -/
def At5 (w : World) (g off : Nat) (cs : List Value) : Prop := w.rangeAt g off cs
theorem At5.ext {g off : Nat} {cs : List Value} (h : At5 w g off cs) (k : Ext w w') : At5 w' g off cs := fun j v hv => (Below.cell k (cell_lt (h j v hv))).trans (h j v hv)
theorem RdM.at5 {A : Option Addr} {k : Nat} {rows : List (List Value)} (h : RdM w A k rows) (hne : ∀ r ∈ rows, 0 < r.length) {i : Nat} {r : List Value} (hr : rows[i]? = some r) : ∃ g off, A = some ⟨g, off, none⟩ ∧ At5 w g (off + i * k) r := by
  obtain ⟨b, off, e, hc⟩ := h.at_ hne hr
  exact ⟨b, off, e, fun j v hv => hc j v hv⟩
theorem OwnM.at5 {e : TypeId} {k : Nat} {v : Value} {rows : List (List Value)} (h : OwnM w e k v rows) (hk : 0 < k) {i : Nat} {r : List Value} (hr : rows[i]? = some r) : ∃ g c, v = .slice (some ⟨g, 0, none⟩) rows.length c ∧ rows.length ≤ c ∧ At5 w g (i * k) r := by
  obtain ⟨A, c, rfl, hrd, hc, hA⟩ := h.form
  obtain ⟨g, off, rfl, ha⟩ := hrd.at5 (fun r hr => by rw [h.len r hr]; exact hk) hr
  obtain ⟨g', e'⟩ := hA _ rfl
  cases e'
  exact ⟨g, c, rfl, hc, by simpa using ha⟩
theorem OwnM.ext {e : TypeId} {k : Nat} {v : Value} {rows : List (List Value)} (h : OwnM w e k v rows) (x : Ext w w') : OwnM w' e k v rows :=
  (As.ownM e k v rows).loc h fun i hi => x.block i ((As.ownM e k v rows).lt h i hi)
theorem wpList_ldX (hgd : o.guard = none) (ty : TypeId) (x : Operand) (ho : o.op = .load ty x)
    {g off : Nat} {cs : List Value} (hr : At5 w g off cs) (hx : a.eval x = .pointer (some ⟨g, off, none⟩)) (d : TypeDesc)
    (hu : P.underlying ty = some d) (hd : d.isRow = true) (hi : (P.info? ty).map (·.size) = some cs.length)
    (h : wpList P ops Q rest (a.put o.dst (.agg cs.toArray)) w) : wpList P ops Q (o :: rest) a w :=
  wpList_load_mid hgd ty x ho g off hx cs d hr hu hd hi h
theorem rdOp_ldX {C : World → Prop} {next : Act → Prop} (ty : TypeId) (x : Operand) (ho : o.op = .load ty x)
    {g off : Nat} {cs : List Value} (hr : ∀ w', C w' → At5 w' g off cs) (hx : a.eval x = .pointer (some ⟨g, off, none⟩)) (d : TypeDesc)
    (hu : P.underlying ty = some d) (hd : d.isRow = true) (hi : (P.info? ty).map (·.size) = some cs.length)
    (h : next (a.put o.dst (.agg cs.toArray))) : rdOp P o a C next := by
  refine ⟨_, fun w' hw' => ?_, h⟩
  unfold rdAt execOp
  simp only [ho, hx, Instr.loadAt, Instr.sureAddr, Sem.run_bind, Sem.run_pure, Result.andThen_ok, run_loadVar_mid w' g off ty cs d (hr w' hw') hu hd hi]
  exact ⟨rfl, rfl⟩
theorem wm_ldX {i : Nat} {l : List Nat} (hi' : ops[i]? = some o) (hw : Region.wanted o (yielded ops a.tmps) = true) (ty : TypeId) (x : Operand) (ho : o.op = .load ty x)
    {g off : Nat} {cs : List Value} (hr : At5 w g off cs) (hx : a.eval x = .pointer (some ⟨g, off, none⟩)) (d : TypeDesc)
    (hu : P.underlying ty = some d) (hd : d.isRow = true) (hi : (P.info? ty).map (·.size) = some cs.length)
    (h : WM P ops Q l (a.put o.dst (.agg cs.toArray)) w) : WM P ops Q (i :: l) a w := by
  refine wm_rd hi' (by simp [isExt, ho]) fun K hK => ?_
  rw [if_pos hw]
  exact rdOp_ldX ty x ho (fun w' hw' => hr.ext (cls_iff.1 hw')) hx d hu hd hi (hK _ h)
theorem wt_ldX {tail : List Oper} {i : Nat} {l : List Nat} (hi' : ops[i]? = some o) (hw : Region.wanted o (yielded ops a.tmps) = true) (ty : TypeId) (x : Operand) (ho : o.op = .load ty x)
    {g off : Nat} {cs : List Value} (hr : At5 w g off cs) (hx : a.eval x = .pointer (some ⟨g, off, none⟩)) (d : TypeDesc)
    (hu : P.underlying ty = some d) (hd : d.isRow = true) (hi : (P.info? ty).map (·.size) = some cs.length)
    (h : WT P ops Q tail l (a.put o.dst (.agg cs.toArray)) w) : WT P ops Q tail (i :: l) a w := by
  refine wt_rd hi' (by simp [isExt, ho]) fun K hK => ?_
  rw [if_pos hw]
  exact rdOp_ldX ty x ho (fun w' hw' => hr.ext (cls_iff.1 hw')) hx d hu hd hi (hK _ h)
end
end Go.Gr
namespace Go.Gr
open Go.RowKit Go.Sort
set_option linter.unusedVariables false
section
variable {P : Program} {w w0 : World} {G : Nat → Prop} {L1 L2 : List As}
theorem wpList_pushS {ops : Array Oper} {rest : List Oper} {o : Oper} {a : Act} {Q : Exit → Act → World → Prop} (L1 : List As) {L2 : List As} {e e' : TypeId} {v u : Value} {xs : List Value} (H : Sep G w0 w (L1 ++ As.own e v xs :: L2)) (hgd : o.guard = none) (s x : Operand) (t : TypeId)
    (ho : o.op = .call { callee := .builtin .append, args := #[s, x], argTypes := #[t, t] })
    (i : TypeInfo) (z : Value) (bytes : Nat) (ht : P.underlying t = some (.slice e)) (hi : P.info? e = some i) (hz : i.zero = some z)
    (hsize : i.size = 1) (hby : i.bytes = bytes) (hzs : z.cells.size = 1)
    (hs : a.eval s = v) (hx : a.eval x = .slice (some ⟨w.heap.size, 0, none⟩) 1 1)
    (h1 : u.oneCell' = true) (hlen : xs.length < 1000000000) (hb : bytes ≤ 1000)
    (h : ∀ v' w', Sep G w0 w' (L1 ++ As.own e v' (xs ++ [u]) :: L2) → wpList P ops Q rest (a.put o.dst v') w') : wpList P ops Q (o :: rest) a (w.alloc (.cells #[u] e')) :=
  wpList_apS L1 (H.ext ((Ext.refl w).alloc _)) hgd s x t ho i z bytes ht hi hz hsize hby hzs hs hx rfl (Rd.one w u e') (by simp [h1]) (by simp; omega) hb h
/-- a row of the call's own as the block that it is -/
theorem Sep.ownBlk (L1 : List As) {L2 : List As} {e : TypeId} {v : Value} {xs : List Value} (H : Sep G w0 w (L1 ++ As.own e v xs :: L2)) (h0 : 0 < xs.length) :
    ∃ g cap cur, v = .slice (some ⟨g, 0, none⟩) xs.length cap ∧ xs.length ≤ cap ∧ cur.length = cap ∧ cur.take xs.length = xs ∧ Sep G w0 w (L1 ++ As.blk g e cur :: L2) := by
  obtain ⟨_, ⟨_, h⟩ | ⟨g, cap, cur, rfl, _, hh, hc, _, hs, ht⟩⟩ := H.owns (e := e) (v := v) (xs := xs) (by simp)
  · omega
  · refine ⟨g, cap, cur.toList, rfl, hc, by simpa using hs, by simpa using ht, H.weak L1 (B := As.blk g e cur.toList) (fun _ => ?_) (fun i hi => ?_)⟩
    · show w.heap[g]? = some (.cells cur.toList.toArray e (0, 0))
      rw [hh, Array.toArray_toList]
    · cases hi; rfl
/-- a cell of a row of the call's own is written -/
theorem Sep.ownSet (L1 : List As) {L2 : List As} {e : TypeId} {A : Option Addr} {n c : Nat} {xs : List Value} (H : Sep G w0 w (L1 ++ As.own e (.slice A n c) xs :: L2)) {i : Nat} (hi : i < xs.length) (u : Value) :
    ∃ g, A = some ⟨g, 0, none⟩ ∧ w.cell? ⟨g, i, none⟩ = some xs[i] ∧ w.frozen? ⟨g, i, none⟩ = false ∧ g < w.heap.size ∧ Sep G w0 (w.setCell ⟨g, i, none⟩ u) (L1 ++ As.own e (.slice A n c) (xs.set i u) :: L2) := by
  obtain ⟨_, ⟨h1, h⟩ | ⟨g, cap, cur, hv, hb, hh, hc, hm, hs, ht⟩⟩ := H.owns (e := e) (v := .slice A n c) (xs := xs) (by simp)
  · omega
  · cases hv
    have hB : Blk w g e cur.toList := by
      show w.heap[g]? = some (.cells cur.toList.toArray e (0, 0))
      rw [hh, Array.toArray_toList]
    have hci : cur.toList[i]? = some xs[i] := by
      have : (cur.toList.take (xs.length * 1))[i]? = xs[i]? := by rw [ht]
      rw [List.getElem?_take, if_pos (by omega), List.getElem?_eq_getElem hi] at this
      exact this
    refine ⟨g, rfl, (hB.cell i).trans hci, hB.free i, hB.lt, ?_⟩
    refine H.upd (B := As.own e (.slice (some ⟨g, 0, none⟩) xs.length c) (xs.set i u)) (Fr.of_upd ((Upd.refl g w).cell i u)) (fun k hk => by rw [show k = g from hk]; rfl) ?_ (fun _ h => .inl h)
    refine ⟨by simp, .inr ⟨g, c, (cur.toList.set i u).toArray, by simp, hb, ?_, by simpa using hc, hm, by simpa using hs, ?_⟩⟩
    · exact hB.set i u
    · simp only [List.length_set]
      rw [List.take_set, ht]
theorem Rd.take_ {A : Option Addr} {xs : List Value} (h : Rd w A xs) (n : Nat) : Rd w A (xs.take n) := fun j u hu => h j u (by
  rw [List.getElem?_take] at hu
  split at hu
  · exact hu
  · cases hu)
end
end Go.Gr
namespace Go.Gr
open Go.RowKit
set_option linter.unusedVariables false
theorem ret_int {k : IntKind} {a b : Int} (h : a = b) : Ending.returned (.int k a) = .returned (.int k b) := by rw [h]
theorem ret_bool {a b : Bool} (h : a = b) : Ending.returned (.bool a) = .returned (.bool b) := by rw [h]
theorem ret_int2 {k k' : IntKind} {a b c d : Int} (h : a = b) (h' : c = d) : Ending.returned (.tuple #[.int k a, .int k' c]) = .returned (.tuple #[.int k b, .int k' d]) := by rw [h, h']
theorem nat_xor_ones (a : Nat) (ha : a < 18446744073709551616) : a ^^^ 18446744073709551615 = 18446744073709551615 - a := by
  have h := congrArg BitVec.toNat (BitVec.xor_allOnes (x := BitVec.ofNat 64 a))
  rw [BitVec.toNat_xor, BitVec.toNat_not, BitVec.toNat_allOnes, BitVec.toNat_ofNat, Nat.mod_eq_of_lt (by simpa using ha)] at h
  simpa using h
theorem u64_xor_ones (a : Int) (h0 : 0 ≤ a) (ha : a < 18446744073709551616) : bits .xor .u64 a 18446744073709551615 = 18446744073709551615 - a := by
  have h := u64_xor a 18446744073709551615 h0 ha (by decide) (by decide)
  rw [h, show (18446744073709551615 : Int).toNat = 18446744073709551615 from rfl, nat_xor_ones _ (by omega)]
  omega
theorem u64_xor_zero (a : Int) (h0 : 0 ≤ a) (ha : a < 18446744073709551616) : bits .xor .u64 a 0 = a := by
  rw [u64_xor a 0 h0 ha (by decide) (by decide)]; simp; omega
theorem i64_wrap_of (n : Nat) (h : n < 18446744073709551616) : IntKind.i64.wrap (n : Int) = if n < 9223372036854775808 then (n : Int) else n - 18446744073709551616 := by
  rw [IntKind.wrap_i64]; split <;> omega
theorem i64_xor_mone (a : Int) (h0 : -9223372036854775808 ≤ a) (ha : a < 9223372036854775808) : bits .xor .i64 a (-1) = -a - 1 := by
  simp only [bits]
  show IntKind.i64.wrap ((BitVec.ofInt 64 a ^^^ BitVec.ofInt 64 (-1)).toNat : Int) = _
  rw [BitVec.toNat_xor, show (BitVec.ofInt 64 (-1)).toNat = 18446744073709551615 from rfl, nat_xor_ones _ (BitVec.isLt _), BitVec.toNat_ofInt, IntKind.wrap_i64]
  omega
theorem i64_xor_zero (a : Int) (h0 : -9223372036854775808 ≤ a) (ha : a < 9223372036854775808) : bits .xor .i64 a 0 = a := by
  simp only [bits]
  show IntKind.i64.wrap ((BitVec.ofInt 64 a ^^^ BitVec.ofInt 64 0).toNat : Int) = _
  rw [BitVec.toNat_xor, show (BitVec.ofInt 64 0).toNat = 0 from rfl, Nat.xor_zero, BitVec.toNat_ofInt, IntKind.wrap_i64]
  omega
theorem u64_and1 (a : Int) (h0 : 0 ≤ a) (ha : a < 18446744073709551616) : bits .and .u64 a 1 = a % 2 := by
  rw [u64_and a 1 h0 ha (by decide) (by decide), show (1 : Int).toNat = 1 from rfl, nat_mask1]; omega

end Go.Gr
