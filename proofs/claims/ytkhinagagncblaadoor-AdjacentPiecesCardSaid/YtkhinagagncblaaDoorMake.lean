/- General: make of a slice, and copy into a block, over one hypothesis for the whole of memory. -/
import Derived.Test.YtkhinagagncblaaDoorPush
import Derived.Test.YtkhinagagncblaaDoorMonoF
namespace Go.Gr
open Go.RowKit Go.Sort
set_option linter.unusedVariables false
section
variable {P : Program} {G : Nat → Prop} {w0 w : World} {L : List As} {o : Oper} {a : Act} {Q : Exit → Act → World → Prop} {K : Act → World → Prop}
/-- make([]T, C) of elements of one cell -/
theorem wp_mkG (H : Sep G w0 w L) (l c : Operand) (t : TypeId) (hop : o.op = Op.makeSlice t l c)
    (e : TypeId) (i : TypeInfo) (z : Value) (bytes : Nat) (h1 : P.underlying t = some (.slice e)) (h2 : P.info? e = some i) (h3 : i.zero = some z) (h4 : i.size = 1) (h5 : i.bytes = bytes) (hzc : z.cells = #[z])
    {kl kc : IntKind} {C : Nat} (hl : a.eval l = .int kl C) (hc : a.eval c = .int kc C) (hC2 : C ≤ 1000000000) (hb : bytes ≤ 1000)
    (hK : ∀ w', w'.heap.size = w.heap.size + 1 → Ext w w' → Sep G w0 w' (As.blk w.heap.size e (List.replicate C z) :: L) → K (a.put o.dst (.slice (some ⟨w.heap.size, 0, none⟩) C C)) w') : o.wp P a w K Q := by
  have hbb : (i.bytes : Int) * (C : Int) ≤ 281474976710656 := by
    rw [h5]
    have := Int.mul_le_mul_of_nonneg_right (show (bytes : Int) ≤ 1000 by omega) (show (0 : Int) ≤ C by omega)
    omega
  have hr := run_make (P := P) w t e i z h1 h2 h3 kl kc C C (by omega) (Int.le_refl _) hbb (by omega)
  rw [h4, Nat.mul_one, made_list z hzc, Int.toNat_natCast] at hr
  unfold Oper.wp execOp
  simp only [hop, hl, hc, Sem.run_bind, hr, Result.andThen_ok, Sem.run_pure]
  exact hK _ (by simp) ((Ext.refl w).alloc _) (H.newB ((Ext.refl w).alloc _) (Blk.new w e _) (Nat.le_refl _))
theorem wpList_mkG {ops : Array Oper} {rest : List Oper} (H : Sep G w0 w L) (hgd : o.guard = none) (l c : Operand) (t : TypeId) (hop : o.op = Op.makeSlice t l c)
    (e : TypeId) (i : TypeInfo) (z : Value) (bytes : Nat) (h1 : P.underlying t = some (.slice e)) (h2 : P.info? e = some i) (h3 : i.zero = some z) (h4 : i.size = 1) (h5 : i.bytes = bytes) (hzc : z.cells = #[z])
    {kl kc : IntKind} {C : Nat} (hl : a.eval l = .int kl C) (hc : a.eval c = .int kc C) (hC2 : C ≤ 1000000000) (hb : bytes ≤ 1000)
    (hK : ∀ w', Sep G w0 w' (As.blk w.heap.size e (List.replicate C z) :: L) → wpList P ops Q rest (a.put o.dst (.slice (some ⟨w.heap.size, 0, none⟩) C C)) w') : wpList P ops Q (o :: rest) a w :=
  wpList_plain hgd fun K hk => wp_mkG H l c t hop e i z bytes h1 h2 h3 h4 h5 hzc hl hc hC2 hb fun w' _ _ H' => hk _ _ (hK w' H')
theorem Sep.rowG (L1 : List As) {L2 : List As} {g : Nat} {e : TypeId} {cs : List Value} (H : Sep G w0 w (L1 ++ As.blk g e cs :: L2)) (cs' : List Value) : Sep G w0 (w.setRow g cs'.toArray) (L1 ++ As.blk g e cs' :: L2) :=
  H.upd (A := As.blk g e cs) (B := As.blk g e cs') (Fr.of_upd ((Upd.refl g w).row _)) (fun _ h => h) ((H.blk (g := g) (e := e) (cs := cs) (by simp)).setRow cs') (fun _ h => .inl h)
/-- copy into a block -/
theorem wpList_cpG {ops : Array Oper} {rest : List Oper} (L1 : List As) {L2 : List As} {g : Nat} {t : TypeId} {cur src : List Value} (H : Sep G w0 w (L1 ++ As.blk g t cur :: L2)) (hgd : o.guard = none) (d s : Operand) (dT sT : TypeId)
    (ho : o.op = .call { callee := .builtin .copy, args := #[d, s], argTypes := #[dT, sT] }) (elem : TypeId) (hu : P.underlying dT = some (.slice elem)) (hsz : (P.info? elem).map (·.size) = some 1)
    {A : Option Addr} {off dLen dCap sLen sCap : Nat} (hd : a.eval d = .slice (some ⟨g, off, none⟩) dLen dCap) (hs : a.eval s = .slice A sLen sCap)
    (hr : Rd w A src) (hl : src.length = sLen) (n : Nat) (hn : n = Nat.min sLen dLen) (hfit : off + n ≤ cur.length) (h1 : ∀ v ∈ src, v.oneCell' = true)
    (h : ∀ w', Sep G w0 w' (L1 ++ As.blk g t (splice cur off (src.take n)) :: L2) → wpList P ops Q rest (a.put o.dst (.int .i64 n)) w') : wpList P ops Q (o :: rest) a w :=
  wpList_copyB hgd d s dT sT ho elem hu hsz hd hs (H.blk (g := g) (e := t) (cs := cur) (by simp)) hr hl n hn hfit h1 (h _ (Sep.rowG L1 H _))
end
end Go.Gr
