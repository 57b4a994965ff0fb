/- General: a slice that the call itself made and may grow, whose elements take several cells each. -/
import Derived.Test.YtkhinagagncblaaDoorArms
import Derived.Test.YtkhinagagncblaaDoorRows2
namespace Go.Gr
open Go.RowKit Go.Sort
set_option linter.unusedVariables false
theorem flatten_get {k : Nat} : ∀ {rows : List (List Value)}, (∀ r ∈ rows, r.length = k) → ∀ (i j : Nat) {r : List Value} {u : Value}, rows[i]? = some r → r[j]? = some u → rows.flatten[i * k + j]? = some u
  | [], _, i, j, r, u, hr, _ => by simp at hr
  | a :: rows, h, 0, j, r, u, hr, hu => by
    simp only [List.getElem?_cons_zero, Option.some.injEq] at hr
    subst hr
    rw [List.flatten_cons, Nat.zero_mul, Nat.zero_add, List.getElem?_append_left]
    · exact hu
    · rcases Nat.lt_or_ge j a.length with h1 | h1
      · exact h1
      · rw [List.getElem?_eq_none h1] at hu; cases hu
  | a :: rows, h, i + 1, j, r, u, hr, hu => by
    rw [List.getElem?_cons_succ] at hr
    have ha := h a (by simp)
    rw [List.flatten_cons, List.getElem?_append_right (by rw [ha, Nat.add_mul]; omega)]
    have := flatten_get (rows := rows) (fun x hx => h x (by simp [hx])) i j hr hu
    rw [ha, show (i + 1) * k + j - k = i * k + j by rw [Nat.add_mul]; omega]
    exact this
theorem flatten_len {k : Nat} : ∀ {rows : List (List Value)}, (∀ r ∈ rows, r.length = k) → rows.flatten.length = rows.length * k
  | [], _ => by simp
  | a :: rows, h => by
    rw [List.flatten_cons, List.length_append, flatten_len (fun x hx => h x (by simp [hx])), h a (by simp), List.length_cons, Nat.add_mul]; omega
/-- v is a slice of these rows of k cells, of the call's own -/
structure OwnM (w : World) (e : TypeId) (k : Nat) (v : Value) (rows : List (List Value)) : Prop where
  row : w.ownsRow 0 e k v rows.length rows.flatten
  len : ∀ r ∈ rows, r.length = k
theorem OwnM.nil (w : World) (e : TypeId) (k : Nat) : OwnM w e k (.slice none 0 0) [] := ⟨World.ownsRow_nil _ _ _ _, by simp⟩
theorem OwnM.form {w : World} {e : TypeId} {k : Nat} {v : Value} {rows : List (List Value)} (h : OwnM w e k v rows) :
    ∃ A c, v = .slice A rows.length c ∧ RdM w A k rows ∧ rows.length ≤ c ∧ (∀ ad, A = some ad → ∃ g, ad = ⟨g, 0, none⟩) := by
  obtain ⟨hrow, hlen⟩ := h
  rcases hrow.2 with ⟨rfl, h0⟩ | ⟨g, cap, cur, rfl, hb, hh, hn, hc, hs, hx⟩
  · have : rows = [] := List.eq_nil_of_length_eq_zero h0
    subst this
    exact ⟨none, 0, rfl, fun i r h => by simp at h, Nat.le_refl _, fun g h => by cases h⟩
  · refine ⟨_, _, rfl, fun i r hr => ⟨_, rfl, fun j u hu => ?_⟩, hn, fun ad h => ⟨g, by cases h; rfl⟩⟩
    have hadd : (⟨g, 0, none⟩ : Addr).add (i * k + j) = ⟨g, i * k + j, none⟩ := by unfold Addr.add; split <;> simp_all
    rw [hadd]
    simp only [World.cell?, hh]
    have h2 := flatten_get hlen i j hr hu
    rw [← hx] at h2
    rw [List.getElem?_take] at h2
    split at h2
    · simpa using h2
    · cases h2
def As.ownM (e : TypeId) (k : Nat) (v : Value) (rows : List (List Value)) : As :=
  ⟨fun i => v.ownBlock = some i, fun w => OwnM w e k v rows, fun h i hi => (World.ownsRow.lt h.row i hi).2, fun h k' => by
    refine ⟨⟨h.row.1, ?_⟩, h.len⟩
    rcases h.row.2 with h0 | ⟨g, cap, cur, rfl, hb, hh, r⟩
    · exact .inl h0
    · exact .inr ⟨g, cap, cur, rfl, hb, by rw [k' g rfl]; exact hh, r⟩⟩
section
variable {P : Program} {G : Nat → Prop} {w0 w w' : World} {L L1 L2 : List As} {ops : Array Oper} {rest : List Oper} {o : Oper} {a : Act} {Q : Exit → Act → World → Prop}
theorem Sep.nilM (e : TypeId) (k : Nat) (h : Sep G w0 w L) : Sep G w0 w (As.ownM e k (.slice none 0 0) [] :: L) := h.new (B := As.ownM e k (.slice none 0 0) []) (Ext.refl w) (OwnM.nil _ _ _) (fun i hi => by cases hi)
theorem Sep.ownsM {e : TypeId} {k : Nat} {v : Value} {rows : List (List Value)} (h : Sep G w0 w L) (hA : As.ownM e k v rows ∈ L) : OwnM w e k v rows := h.get hA
/-- new boxes -/
theorem Sep.add (H : Sep G w0 w L) (e : TypeId) (cs : List Value) : Sep G w0 (w.alloc (.cells cs.toArray e)) (As.blk w.heap.size e cs :: L) := H.newB ((Ext.refl w).alloc (.cells cs.toArray e)) (Blk.new w e cs) (Nat.le_refl _)
theorem Sep.add2 (H : Sep G w0 w L) (e1 e2 : TypeId) (c1 c2 : List Value) : Sep G w0 ((w.alloc (.cells c1.toArray e1)).alloc (.cells c2.toArray e2)) (As.blk (w.heap.size + 1) e2 c2 :: As.blk w.heap.size e1 c1 :: L) := by
  have h := (H.add e1 c1).add e2 c2
  rwa [show (w.alloc (.cells c1.toArray e1)).heap.size = w.heap.size + 1 by simp] at h
/-- what a grown row is, without the whole of memory -/
structure Grew (w w' : World) (v v' : Value) : Prop where
  fr : Fr (fun k => v.ownBlock = some k) w w'
  own : ∀ k, v'.ownBlock = some k → v.ownBlock = some k ∨ w.heap.size ≤ k
theorem Grew.same {v : Value} (h : Ext w w') : Grew w w' v v := ⟨(Fr.of_ext h).mono (fun _ h => h.elim), fun k hk => .inl hk⟩
theorem Grew.ext_left {v v' : Value} {w1 : World} (h : Ext w w1) (k : Grew w1 w' v v') : Grew w w' v v' :=
  ⟨((Fr.of_ext h).mono (fun _ h => h.elim)).trans k.fr, fun i hi => (k.own i hi).elim .inl (fun h2 => .inr (Nat.le_trans h.size h2))⟩
theorem Grew.ext_right {v v' : Value} {w1 : World} (k : Grew w w1 v v') (h : Ext w1 w') : Grew w w' v v' :=
  ⟨k.fr.trans ((Fr.of_ext h).mono (fun _ h => h.elim)), k.own⟩
theorem Sep.grewM (L1 : List As) {L2 : List As} {e : TypeId} {k : Nat} {v v' : Value} {rows rows' : List (List Value)} (H : Sep G w0 w (L1 ++ As.ownM e k v rows :: L2)) (g : Grew w w' v v') (h : OwnM w' e k v' rows') : Sep G w0 w' (L1 ++ As.ownM e k v' rows' :: L2) :=
  H.upd (A := As.ownM e k v rows) (B := As.ownM e k v' rows') g.fr (fun _ h => h) h g.own
/-- append of one row onto a slice of the call's own -/
theorem run_append_rowM (t ty e : TypeId) (i : TypeInfo) (z : Value) (k bytes : Nat) (ht : P.underlying t = some (.slice e)) (hi : P.info? e = some i) (hz : i.zero = some z)
    (hsize : i.size = k) (hby : i.bytes = bytes) (hzs : z.cells.size = k) (hsz : 0 < k)
    {v : Value} {rows : List (List Value)} (hown : OwnM w e k v rows) (A : Option Addr) (c : Nat) (r : List Value) (hl : r.length = k) (hr : Rd w A r)
    (h1 : ∀ u ∈ r, u.oneCell' = true) (hn : rows.length < 100000) (hb : bytes ≤ 1000) :
    ∃ v' w', (Builtin.append_ #[t, t] ty #[v, .slice A 1 c]).run P w = .ok v' w' ∧ OwnM w' e k v' (rows ++ [r]) ∧ Grew w w' v v' := by
  have hbb : (rows.length + 1) * bytes ≤ 100000 * 1000 := Nat.mul_le_mul hn hb
  obtain ⟨v', w', hrun, h2, h3, h4⟩ := run_append_sep (P := P) (w := w) t ty e i z k bytes ht hi hz hsize hby hzs hsz v rows.length rows.flatten hown.row A 1 c r (by rw [hl, Nat.one_mul]) hr h1 (by unfold maxLen; omega) (by omega)
  refine ⟨v', w', hrun, ⟨?_, ?_⟩, ⟨⟨h3.os, h3.tape, h3.output, h3.size, fun k hk hn => h3.block k hk (fun e => hn e.symm)⟩, h4⟩⟩
  · rw [List.length_append, List.flatten_append]; simpa using h2
  · intro x hx
    rcases List.mem_append.1 hx with hx | hx
    · exact hown.len x hx
    · rw [List.mem_singleton] at hx; subst hx; exact hl
theorem wpList_apM (hgd : o.guard = none) (s x : Operand) (t : TypeId)
    (ho : o.op = .call { callee := .builtin .append, args := #[s, x], argTypes := #[t, t] })
    (e : TypeId) (i : TypeInfo) (z : Value) (k bytes : Nat) (ht : P.underlying t = some (.slice e)) (hi : P.info? e = some i) (hz : i.zero = some z)
    (hsize : i.size = k) (hby : i.bytes = bytes) (hzs : z.cells.size = k) (hsz : 0 < k)
    {v : Value} {rows : List (List Value)} (hs : a.eval s = v) (hown : OwnM w e k v rows) {A : Option Addr} {c : Nat} {r : List Value} (hx : a.eval x = .slice A 1 c) (hl : r.length = k) (hr : Rd w A r)
    (h1 : ∀ u ∈ r, u.oneCell' = true) (hn : rows.length < 100000) (hb : bytes ≤ 1000)
    (h : ∀ v' w', OwnM w' e k v' (rows ++ [r]) → Grew w w' v v' → wpList P ops Q rest (a.put o.dst v') w') : wpList P ops Q (o :: rest) a w :=
  wpList_plain hgd fun K hK => by
    obtain ⟨v', w', hrun, h2, h3⟩ := run_append_rowM (P := P) (w := w) t o.type e i z k bytes ht hi hz hsize hby hzs hsz hown A c r hl hr h1 hn hb
    unfold Oper.wp execOp
    simp only [ho, resolve, invoke, builtin, Sem.run_bind, Sem.run_pure, Result.andThen_ok, List.map_toArray, List.map_cons, List.map_nil, hs, hx, hrun]
    exact hK _ _ (h v' w' h2 h3)
/-- these cells lie there -/
def At5 (w : World) (g off : Nat) (cs : List Value) : Prop := w.rangeAt g off cs
theorem At5.ext {g off : Nat} {cs : List Value} (h : At5 w g off cs) (k : Ext w w') : At5 w' g off cs := fun j v hv => (Below.cell k (cell_lt (h j v hv))).trans (h j v hv)
theorem RdM.at5 {A : Option Addr} {k : Nat} {rows : List (List Value)} (h : RdM w A k rows) (hne : ∀ r ∈ rows, 0 < r.length) {i : Nat} {r : List Value} (hr : rows[i]? = some r) : ∃ g off, A = some ⟨g, off, none⟩ ∧ At5 w g (off + i * k) r := by
  obtain ⟨b, off, e, hc⟩ := h.at_ hne hr
  exact ⟨b, off, e, fun j v hv => hc j v hv⟩
theorem OwnM.at5 {e : TypeId} {k : Nat} {v : Value} {rows : List (List Value)} (h : OwnM w e k v rows) (hk : 0 < k) {i : Nat} {r : List Value} (hr : rows[i]? = some r) : ∃ g c, v = .slice (some ⟨g, 0, none⟩) rows.length c ∧ rows.length ≤ c ∧ At5 w g (i * k) r := by
  obtain ⟨A, c, rfl, hrd, hc, hA⟩ := h.form
  obtain ⟨g, off, rfl, ha⟩ := hrd.at5 (fun r hr => by rw [h.len r hr]; exact hk) hr
  obtain ⟨g', e'⟩ := hA _ rfl
  cases e'
  exact ⟨g, c, rfl, hc, by simpa using ha⟩
theorem OwnM.ext {e : TypeId} {k : Nat} {v : Value} {rows : List (List Value)} (h : OwnM w e k v rows) (x : Ext w w') : OwnM w' e k v rows :=
  (As.ownM e k v rows).loc h fun i hi => x.block i ((As.ownM e k v rows).lt h i hi)
theorem wpList_ldX (hgd : o.guard = none) (ty : TypeId) (x : Operand) (ho : o.op = .load ty x)
    {g off : Nat} {cs : List Value} (hr : At5 w g off cs) (hx : a.eval x = .pointer (some ⟨g, off, none⟩)) (d : TypeDesc)
    (hu : P.underlying ty = some d) (hd : d.isRow = true) (hi : (P.info? ty).map (·.size) = some cs.length)
    (h : wpList P ops Q rest (a.put o.dst (.agg cs.toArray)) w) : wpList P ops Q (o :: rest) a w :=
  wpList_load_mid hgd ty x ho g off hx cs d hr hu hd hi h
theorem rdOp_ldX {C : World → Prop} {next : Act → Prop} (ty : TypeId) (x : Operand) (ho : o.op = .load ty x)
    {g off : Nat} {cs : List Value} (hr : ∀ w', C w' → At5 w' g off cs) (hx : a.eval x = .pointer (some ⟨g, off, none⟩)) (d : TypeDesc)
    (hu : P.underlying ty = some d) (hd : d.isRow = true) (hi : (P.info? ty).map (·.size) = some cs.length)
    (h : next (a.put o.dst (.agg cs.toArray))) : rdOp P o a C next := by
  refine ⟨_, fun w' hw' => ?_, h⟩
  unfold rdAt execOp
  simp only [ho, hx, Instr.loadAt, Instr.sureAddr, Sem.run_bind, Sem.run_pure, Result.andThen_ok, run_loadVar_mid w' g off ty cs d (hr w' hw') hu hd hi]
  exact ⟨rfl, rfl⟩
theorem wm_ldX {i : Nat} {l : List Nat} (hi' : ops[i]? = some o) (hw : Region.wanted o (yielded ops a.tmps) = true) (ty : TypeId) (x : Operand) (ho : o.op = .load ty x)
    {g off : Nat} {cs : List Value} (hr : At5 w g off cs) (hx : a.eval x = .pointer (some ⟨g, off, none⟩)) (d : TypeDesc)
    (hu : P.underlying ty = some d) (hd : d.isRow = true) (hi : (P.info? ty).map (·.size) = some cs.length)
    (h : WM P ops Q l (a.put o.dst (.agg cs.toArray)) w) : WM P ops Q (i :: l) a w := by
  refine wm_rd hi' (by simp [isExt, ho]) fun K hK => ?_
  rw [if_pos hw]
  exact rdOp_ldX ty x ho (fun w' hw' => hr.ext (cls_iff.1 hw')) hx d hu hd hi (hK _ h)
theorem wt_ldX {tail : List Oper} {i : Nat} {l : List Nat} (hi' : ops[i]? = some o) (hw : Region.wanted o (yielded ops a.tmps) = true) (ty : TypeId) (x : Operand) (ho : o.op = .load ty x)
    {g off : Nat} {cs : List Value} (hr : At5 w g off cs) (hx : a.eval x = .pointer (some ⟨g, off, none⟩)) (d : TypeDesc)
    (hu : P.underlying ty = some d) (hd : d.isRow = true) (hi : (P.info? ty).map (·.size) = some cs.length)
    (h : WT P ops Q tail l (a.put o.dst (.agg cs.toArray)) w) : WT P ops Q tail (i :: l) a w := by
  refine wt_rd hi' (by simp [isExt, ho]) fun K hK => ?_
  rw [if_pos hw]
  exact rdOp_ldX ty x ho (fun w' hw' => hr.ext (cls_iff.1 hw')) hx d hu hd hi (hK _ h)
end
end Go.Gr
