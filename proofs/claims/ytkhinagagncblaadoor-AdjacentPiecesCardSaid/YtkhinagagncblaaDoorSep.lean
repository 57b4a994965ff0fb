/- General: what lies where, one hypothesis for the whole of memory: assertions that own blocks, none in common; what was there before is as it was, but for some blocks. -/
import Derived.Test.YtkhinagagncblaaDoorEqs
namespace Go.Gr
open Go.RowKit Go.Sort
set_option linter.unusedVariables false
/-- an assertion on the blocks that it owns -/
structure As where
  fp : Nat → Prop
  p : World → Prop
  lt : ∀ {w : World}, p w → ∀ k, fp k → k < w.heap.size
  loc : ∀ {w w' : World}, p w → (∀ k, fp k → w'.heap[k]? = w.heap[k]?) → p w'
/-- only blocks of S, and what is new, have turned -/
structure Fr (S : Nat → Prop) (w w' : World) : Prop where
  os : w'.os = w.os
  tape : w'.tape = w.tape
  output : w'.output = w.output
  size : w.heap.size ≤ w'.heap.size
  block : ∀ k, k < w.heap.size → ¬ S k → w'.heap[k]? = w.heap[k]?
def No : Nat → Prop := fun _ => False
def At (g : Nat) : Nat → Prop := fun k => k = g
theorem Fr.of_ext {w w' : World} (h : Ext w w') : Fr No w w' := ⟨h.os, h.tape, h.output, h.size, fun k hk _ => h.block k hk⟩
theorem Fr.ext {w w' : World} (h : Fr No w w') : Ext w w' := ⟨h.os, h.tape, h.output, h.size, fun k hk => h.block k hk (fun h => h)⟩
theorem Fr.of_upd {g : Nat} {w w' : World} (h : Upd g w w') : Fr (At g) w w' := ⟨h.os, h.tape, h.output, h.size, fun k hk hn => h.block k hk (fun e => hn (by cases e; rfl))⟩
theorem Fr.upd {g : Nat} {w w' : World} (h : Fr (At g) w w') : Upd g w w' := ⟨h.os, h.tape, h.output, h.size, fun k hk hn => h.block k hk (fun e => hn (by rw [e]))⟩
theorem Fr.refl (S : Nat → Prop) (w : World) : Fr S w w := ⟨rfl, rfl, rfl, Nat.le_refl _, fun _ _ _ => rfl⟩
theorem Fr.mono {S T : Nat → Prop} {w w' : World} (h : Fr S w w') (k : ∀ i, S i → T i) : Fr T w w' := ⟨h.os, h.tape, h.output, h.size, fun i hi hn => h.block i hi (fun hs => hn (k i hs))⟩
theorem Fr.trans {S : Nat → Prop} {a b c : World} (h : Fr S a b) (k : Fr S b c) : Fr S a c :=
  ⟨k.os.trans h.os, k.tape.trans h.tape, k.output.trans h.output, Nat.le_trans h.size k.size, fun i hi hn => (k.block i (Nat.lt_of_lt_of_le hi h.size) hn).trans (h.block i hi hn)⟩
theorem Fr.drewN {S : Nat → Prop} {a b : World} (h : Fr S a b) (n : Nat) : Fr S a (b.drewN n) := ⟨h.os, h.tape, h.output, h.size, h.block⟩
/-- w0 has become w: G may have turned; what L says holds, of blocks of its own -/
structure Sep (G : Nat → Prop) (w0 w : World) (L : List As) : Prop where
  fr : Fr G w0 w
  all : ∀ A ∈ L, A.p w
  own : ∀ A ∈ L, ∀ k, A.fp k → G k ∨ w0.heap.size ≤ k
  dis : L.Pairwise fun A B => ∀ k, A.fp k → ¬ B.fp k
section
variable {G : Nat → Prop} {w0 w w' : World} {L L1 L2 : List As} {A B : As}
theorem Sep.refl (G : Nat → Prop) (w : World) : Sep G w w [] := ⟨Fr.refl _ _, by simp, by simp, List.Pairwise.nil⟩
theorem Sep.start (h : A.p w) : Sep A.fp w w [A] := ⟨Fr.refl _ _, by simpa using h, by simp; exact fun k h => .inl h, by simp⟩
theorem Sep.eq (h : Sep G w0 w L) (e : w' = w) : Sep G w0 w' L := by rw [e]; exact h
theorem Sep.ext (h : Sep G w0 w L) (k : Ext w w') : Sep G w0 w' L :=
  ⟨h.fr.trans ((Fr.of_ext k).mono (fun _ h => h.elim)), fun A hA => A.loc (h.all A hA) (fun i hi => k.block i (A.lt (h.all A hA) i hi)), h.own, h.dis⟩
theorem Sep.drewN (h : Sep G w0 w L) (n : Nat) : Sep G w0 (w.drewN n) L := h.ext ((Ext.refl w).drewN n)
theorem Sep.drew (h : Sep G w0 w L) : Sep G w0 w.drew L := h.ext ((Ext.refl w).drew)
/-- one more, of new blocks -/
theorem Sep.new (h : Sep G w0 w L) (k : Ext w w') (hp : B.p w') (hf : ∀ i, B.fp i → w.heap.size ≤ i) : Sep G w0 w' (B :: L) := by
  have h' := h.ext k
  refine ⟨h'.fr, ?_, ?_, ?_⟩
  · intro A hA
    rcases List.mem_cons.1 hA with rfl | hA
    · exact hp
    · exact h'.all A hA
  · intro A hA i hi
    rcases List.mem_cons.1 hA with rfl | hA
    · exact .inr (Nat.le_trans h.fr.size (hf i hi))
    · exact h'.own A hA i hi
  · refine List.Pairwise.cons (fun A hA i hi hi' => ?_) h'.dis
    have := A.lt (h.all A hA) i hi'
    have := hf i hi
    omega
/-- one of them turns -/
theorem Sep.upd (h : Sep G w0 w (L1 ++ A :: L2)) {S : Nat → Prop} (k : Fr S w w') (hS : ∀ i, S i → A.fp i) (hp : B.p w') (hf : ∀ i, B.fp i → A.fp i ∨ w.heap.size ≤ i) : Sep G w0 w' (L1 ++ B :: L2) := by
  have hA : A ∈ L1 ++ A :: L2 := by simp
  have hd := List.pairwise_append.1 h.dis
  have hd2 := List.pairwise_cons.1 hd.2.1
  have keep : ∀ C, (C ∈ L1 ∨ C ∈ L2) → (∀ i, C.fp i → ¬ A.fp i) := by
    rintro C (hC | hC) i hi hi'
    · exact hd.2.2 C hC A (by simp) i hi hi'
    · exact hd2.1 C hC i hi' hi
  have old : ∀ C, (C ∈ L1 ∨ C ∈ L2) → C.p w' := by
    intro C hC
    have hm : C ∈ L1 ++ A :: L2 := by rcases hC with hC | hC <;> simp [hC]
    exact C.loc (h.all C hm) fun i hi => k.block i (C.lt (h.all C hm) i hi) (fun hs => keep C hC i hi (hS i hs))
  refine ⟨?_, ?_, ?_, ?_⟩
  · refine ⟨k.os.trans h.fr.os, k.tape.trans h.fr.tape, k.output.trans h.fr.output, Nat.le_trans h.fr.size k.size, fun i hi hn => ?_⟩
    refine (k.block i (Nat.lt_of_lt_of_le hi h.fr.size) (fun hs => ?_)).trans (h.fr.block i hi hn)
    rcases h.own A hA i (hS i hs) with hg | hg
    · exact hn hg
    · omega
  · intro C hC
    rcases List.mem_append.1 hC with hC | hC
    · exact old C (.inl hC)
    · rcases List.mem_cons.1 hC with rfl | hC
      · exact hp
      · exact old C (.inr hC)
  · intro C hC i hi
    rcases List.mem_append.1 hC with hC | hC
    · exact h.own C (by simp [hC]) i hi
    · rcases List.mem_cons.1 hC with rfl | hC
      · rcases hf i hi with h1 | h1
        · exact h.own A hA i h1
        · exact .inr (Nat.le_trans h.fr.size h1)
      · exact h.own C (by simp [hC]) i hi
  · have far : ∀ C, (C ∈ L1 ∨ C ∈ L2) → ∀ i, C.fp i → ¬ B.fp i := by
      intro C hC i hi hb
      rcases hf i hb with h1 | h1
      · exact keep C hC i hi h1
      · have hm : C ∈ L1 ++ A :: L2 := by rcases hC with hC | hC <;> simp [hC]
        have := C.lt (h.all C hm) i hi
        omega
    refine List.pairwise_append.2 ⟨hd.1, List.pairwise_cons.2 ⟨fun C hC i hi hi' => far C (.inr hC) i hi' hi, hd2.2⟩, fun C hC D hD i hi hi' => ?_⟩
    rcases List.mem_cons.1 hD with rfl | hD
    · exact far C (.inl hC) i hi hi'
    · exact hd.2.2 C hC D (by simp [hD]) i hi hi'
theorem Sep.get (h : Sep G w0 w L) (hA : A ∈ L) : A.p w := h.all A hA
theorem Sep.sub {L' : List As} (h : Sep G w0 w L) (hs : L'.Sublist L) : Sep G w0 w L' :=
  ⟨h.fr, fun A hA => h.all A (hs.mem hA), fun A hA => h.own A (hs.mem hA), h.dis.sublist hs⟩
theorem Sep.perm {L' : List As} (h : Sep G w0 w L) (hs : L.Perm L') : Sep G w0 w L' :=
  ⟨h.fr, fun A hA => h.all A (hs.mem_iff.2 hA), fun A hA => h.own A (hs.mem_iff.2 hA), (hs.pairwise_iff (fun {a b} h k hb ha => h k ha hb)).1 h.dis⟩
theorem Sep.swap (h : Sep G w0 w (A :: B :: L)) : Sep G w0 w (B :: A :: L) := h.perm (List.Perm.swap _ _ _)
theorem Sep.tail (h : Sep G w0 w (A :: L)) : Sep G w0 w L := h.sub (List.sublist_cons_self _ _)
/-- what held of old blocks that have not turned -/
theorem Sep.old (h : Sep G w0 w L) (hA : A.p w0) (hG : ∀ i, A.fp i → ¬ G i) : A.p w := A.loc hA fun i hi => h.fr.block i (A.lt hA i hi) (hG i hi)
theorem Sep.toExt (h : Sep No w0 w L) : Ext w0 w := h.fr.ext
theorem Sep.toUpd {g : Nat} (h : Sep (At g) w0 w L) : Upd g w0 w := h.fr.upd
theorem Sep.le (h : Sep G w0 w L) : w0.heap.size ≤ w.heap.size := h.fr.size
end
/-- block g is just these cells -/
def As.blk (g : Nat) (e : TypeId) (cs : List Value) : As := ⟨At g, fun w => Blk w g e cs, fun h k hk => by cases hk; exact h.lt, fun h k => (k g rfl).trans h⟩
/-- a row that the call itself made -/
def As.own (e : TypeId) (v : Value) (xs : List Value) : As :=
  ⟨fun k => v.ownBlock = some k, fun w => Own 0 w e v xs, fun h k hk => (World.ownsRow.lt h k hk).2, fun h k => by
    refine ⟨h.1, ?_⟩
    rcases h.2 with h0 | ⟨g, cap, cur, rfl, hb, hh, r⟩
    · exact .inl h0
    · exact .inr ⟨g, cap, cur, rfl, hb, by rw [k g rfl]; exact hh, r⟩⟩
/-- a part of a block that is read -/
def As.rd (A : Option Addr) (xs : List Value) : As :=
  ⟨fun k => xs ≠ [] ∧ ∃ ad, A = some ad ∧ ad.block = k, fun w => Rd w A xs, fun {w} h k hk => by
    obtain ⟨hne, ad, rfl, rfl⟩ := hk
    obtain ⟨ad', e, hc⟩ := h.at_ (List.length_pos_iff.2 hne)
    cases e
    have := cell_lt hc
    rwa [add_block] at this, fun {w w'} h k j u hu => by
    obtain ⟨ad, e, hc⟩ := h j u hu
    refine ⟨ad, e, ?_⟩
    have hk := k ad.block ⟨fun h0 => by rw [h0] at hu; simp at hu, ad, e, rfl⟩
    rw [← add_block ad j] at hk
    exact (World.cell?_of_block hk).trans hc⟩
section
variable {G : Nat → Prop} {w0 w w' : World} {L L1 L2 : List As} {A B : As}
theorem Sep.blk {g : Nat} {e : TypeId} {cs : List Value} (h : Sep G w0 w L) (hA : As.blk g e cs ∈ L) : Blk w g e cs := h.get hA
theorem Sep.owns {e : TypeId} {v : Value} {xs : List Value} (h : Sep G w0 w L) (hA : As.own e v xs ∈ L) : Own 0 w e v xs := h.get hA
theorem Sep.newB {g : Nat} {e : TypeId} {cs : List Value} (h : Sep G w0 w L) (k : Ext w w') (hp : Blk w' g e cs) (hg : w.heap.size ≤ g) : Sep G w0 w' (As.blk g e cs :: L) := h.new (B := As.blk g e cs) k hp (fun i hi => by cases hi; exact hg)
theorem Sep.newO {e : TypeId} {v : Value} {xs : List Value} (h : Sep G w0 w L) (k : Ext w w') (hp : Own w.heap.size w' e v xs) : Sep G w0 w' (As.own e v xs :: L) := by
  refine h.new (B := As.own e v xs) k ⟨hp.1, ?_⟩ (fun i hi => hp.low i hi)
  rcases hp.2 with h0 | ⟨g, cap, cur, rfl, hb, r⟩
  · exact .inl h0
  · exact .inr ⟨g, cap, cur, rfl, Nat.zero_le _, r⟩
theorem Sep.nilO (e : TypeId) (h : Sep G w0 w L) : Sep G w0 w (As.own e (.slice none 0 0) [] :: L) := h.newO (Ext.refl w) (Own.nil _ _ _)
theorem Sep.rds {A : Option Addr} {xs : List Value} (h : Sep G w0 w L) (hr : Rd w0 A xs) (hG : ∀ ad, A = some ad → ¬ G ad.block) : Rd w A xs :=
  h.old (A := As.rd A xs) hr (fun i ⟨_, ad, e, hi⟩ => by rw [← hi]; exact hG ad e)
theorem Sep.rdN {A : Option Addr} {xs : List Value} (h : Sep No w0 w L) (hr : Rd w0 A xs) : Rd w A xs := h.rds hr (fun _ _ h => h)
/-- a cell of a block is written -/
theorem Sep.cell {g : Nat} {e : TypeId} {cs : List Value} (h : Sep G w0 w (L1 ++ As.blk g e cs :: L2)) (i : Nat) (u : Value) : Sep G w0 (w.setCell ⟨g, i, none⟩ u) (L1 ++ As.blk g e (cs.set i u) :: L2) :=
  h.upd (B := As.blk g e (cs.set i u)) (Fr.of_upd ((Upd.refl g w).cell i u)) (fun _ h => h) ((h.blk (by simp)).set i u) (fun _ h => .inl h)
end
section
variable {P : Program} {G : Nat → Prop} {w0 w : World} {L L1 L2 : List As} {ops : Array Oper} {rest : List Oper} {o : Oper} {a : Act} {Q : Exit → Act → World → Prop}
/-- a whole array or struct into a block -/
theorem wpList_stS (L1 : List As) {L2 : List As} {g : Nat} {t : TypeId} {old cs : List Value} (H : Sep G w0 w (L1 ++ As.blk g t old :: L2)) (hgd : o.guard = none) (ty : TypeId) (x y : Operand) (ho : o.op = .store ty x y)
    (hx : a.eval x = .pointer (some ⟨g, 0, none⟩)) (hy : a.eval y = .agg cs.toArray)
    (hi : (P.info? ty).map (·.size) = some cs.length) (hl : old.length = cs.length) (h1 : ∀ v ∈ cs, v.oneCell' = true)
    (h : ∀ w', Sep G w0 w' (L1 ++ As.blk g t cs :: L2) → wpList P ops Q rest (a.put o.dst undef) w') : wpList P ops Q (o :: rest) a w :=
  wpList_storeH hgd ty x y ho (H.blk (by simp)) hx hy hi hl h1 fun w' hb hu => h w' (H.upd (B := As.blk g t cs) (Fr.of_upd hu) (fun _ h => h) hb (fun _ h => .inl h))
/-- a whole array or struct out of a block -/
theorem wpList_ldS {g : Nat} {t : TypeId} {cs : List Value} (H : Sep G w0 w L) (hA : As.blk g t cs ∈ L) (hgd : Region.wanted o (yielded ops a.tmps) = true) (ty : TypeId) (x : Operand) (ho : o.op = .load ty x)
    (hx : a.eval x = .pointer (some ⟨g, 0, none⟩)) (d : TypeDesc)
    (hu : P.underlying ty = some d) (hd : (match d with | .struct _ | .array _ _ => true | _ => false) = true) (hi : (P.info? ty).map (·.size) = some cs.length)
    (h : wpList P ops Q rest (a.put o.dst (.agg cs.toArray)) w) : wpList P ops Q (o :: rest) a w :=
  wpList_loadBG hgd ty x ho (H.blk hA) hx d hu hd hi h
theorem wm_ldS {i : Nat} {l : List Nat} {g : Nat} {t : TypeId} {cs : List Value} (H : Sep G w0 w L) (hA : As.blk g t cs ∈ L) (hi' : ops[i]? = some o) (hgd : Region.wanted o (yielded ops a.tmps) = true) (ty : TypeId) (x : Operand) (ho : o.op = .load ty x)
    (hx : a.eval x = .pointer (some ⟨g, 0, none⟩)) (d : TypeDesc)
    (hu : P.underlying ty = some d) (hd : d.isRow = true) (hi : (P.info? ty).map (·.size) = some cs.length)
    (h : WM P ops Q l (a.put o.dst (.agg cs.toArray)) w) : WM P ops Q (i :: l) a w :=
  wm_loadBG hi' hgd ty x ho (H.blk hA) hx d hu hd hi h
/-- append onto a row: where the row lies behind it -/
theorem run_append_sep (t ty e : TypeId) (i : TypeInfo) (z : Value) (size bytes : Nat) (ht : P.underlying t = some (.slice e)) (hi : P.info? e = some i) (hz : i.zero = some z)
    (hsize : i.size = size) (hby : i.bytes = bytes) (hzs : z.cells.size = size) (hsz : 0 < size)
    (v : Value) (n : Nat) (xs : List Value) (hown : w.ownsRow 0 e size v n xs) (A : Option Addr) (m c : Nat) (news : List Value) (hl : news.length = m * size) (hr : Rd w A news)
    (h1 : ∀ u ∈ news, u.oneCell' = true) (h63 : n + m ≤ maxLen) (hbytes : (n + m) * bytes ≤ 140737488355328) :
    ∃ v' w', (Builtin.append_ #[t, t] ty #[v, .slice A m c]).run P w = .ok v' w' ∧ w'.ownsRow 0 e size v' (n + m) (xs ++ news) ∧ w.grownBy w' v.ownBlock ∧ (∀ k, v'.ownBlock = some k → v.ownBlock = some k ∨ w.heap.size ≤ k) := by
  rcases A with _ | ad
  · have hn : news = [] := by
      rcases news with _ | ⟨x, r⟩
      · rfl
      · obtain ⟨ad, e, _⟩ := hr 0 x (by simp); cases e
    subst hn
    have hm : m = 0 := by
      rcases Nat.eq_zero_or_pos m with h | h
      · exact h
      · have := Nat.mul_pos h hsz; simp at hl; omega
    subst hm
    exact ⟨v, w, run_append_none_src 0 t ty e i size ht hi v n xs hown c, by simpa using hown, World.grownBy.refl w _, fun k hk => .inl hk⟩
  · have hnews : ∀ j u, news[j]? = some u → w.cell? (ad.add j) = some u := fun j u hu => by obtain ⟨ad', e, hc⟩ := hr j u hu; cases e; exact hc
    have hsmall : n + m ≤ 9223372036854775807 := by simp only [maxLen] at h63; omega
    obtain ⟨v', w', hrun, h2, h3, _⟩ := run_append_own (P := P) w 0 t ty e i z size bytes ht hi hz hsize hby hzs hsz v n xs hown ad m c news hl hnews h1 h63 hbytes (Nat.zero_le _)
    refine ⟨v', w', hrun, h2, h3, fun k hk => ?_⟩
    subst hsize
    subst hby
    rcases hown.2 with ⟨rfl, rfl⟩ | ⟨g, cap, cur, rfl, hbg, hg, hnc, hcm, hcs, htake⟩
    · obtain ⟨v2, w2, hrun2, h4, _, _⟩ := run_append_own (P := P) w w.heap.size t ty e i z i.size i.bytes ht hi hz rfl rfl hzs hsz (.slice none 0 0) 0 xs ⟨hown.1, .inl ⟨rfl, rfl⟩⟩ ad m c news hl hnews h1 h63 hbytes (Nat.le_refl _)
      rw [hrun] at hrun2
      cases hrun2
      exact .inr (World.ownsRow.lt h4 k hk).1
    · by_cases hroom : n + m ≤ cap
      · have hfit : n * i.size + news.length ≤ cur.size := by rw [hl, hcs, ← Nat.add_mul]; exact Nat.mul_le_mul_right _ hroom
        have hr2 := run_append_room (P := P) w t ty e i ht hi g n cap cur hg ad m c news hl hnews h1 hroom hfit
        rw [hrun] at hr2
        cases hr2
        exact .inl hk
      · have holds : ∀ j u, xs[j]? = some u → w.cell? ((⟨g, 0, none⟩ : Addr).add j) = some u := hown.cells (g := g) rfl
        have hr2 := run_append_grow (P := P) w t ty e i z ht hi hz ⟨g, 0, none⟩ n cap xs hown.1 holds ad m c news hl hnews (by omega) (by omega) (growslice_fits (by omega) hbytes)
        rw [hrun] at hr2
        cases hr2
        simp [Value.ownBlock] at hk
        exact .inr (by omega)
/-- append onto a row of the call's own -/
theorem wp_apS (L1 : List As) {L2 : List As} {e : TypeId} {v : Value} {xs : List Value} {K : Act → World → Prop} (H : Sep G w0 w (L1 ++ As.own e v xs :: L2)) (s x : Operand) (t : TypeId)
    (ho : o.op = .call { callee := .builtin .append, args := #[s, x], argTypes := #[t, t] })
    (i : TypeInfo) (z : Value) (bytes : Nat) (ht : P.underlying t = some (.slice e)) (hi : P.info? e = some i) (hz : i.zero = some z)
    (hsize : i.size = 1) (hby : i.bytes = bytes) (hzs : z.cells.size = 1)
    (hs : a.eval s = v) {A : Option Addr} {m c : Nat} {news : List Value} (hx : a.eval x = .slice A m c) (hl : m = news.length) (hr : Rd w A news)
    (h1 : ∀ u ∈ news, u.oneCell' = true) (hlen : xs.length + news.length ≤ 1000000000) (hb : bytes ≤ 1000)
    (h : ∀ v' w', Sep G w0 w' (L1 ++ As.own e v' (xs ++ news) :: L2) → Fr (fun k => v.ownBlock = some k) w w' → (∀ k, v'.ownBlock = some k → v.ownBlock = some k ∨ w.heap.size ≤ k) → K (a.put o.dst v') w') : o.wp P a w K Q := by
  subst hl
  have hbb : (xs.length + news.length) * bytes ≤ 1000000000 * 1000 := Nat.mul_le_mul hlen hb
  obtain ⟨v', w', hrun, h2, h3, h4⟩ := run_append_sep (P := P) (w := w) t o.type e i z 1 bytes ht hi hz hsize hby hzs (by decide) v xs.length xs (H.owns (by simp)) A news.length c news (by simp) hr h1 (by unfold maxLen; omega) (by omega)
  unfold Oper.wp execOp
  simp only [ho, resolve, invoke, builtin, Sem.run_bind, Sem.run_pure, Result.andThen_ok, List.map_toArray, List.map_cons, List.map_nil, hs, hx, hrun]
  have hf : Fr (fun k => v.ownBlock = some k) w w' := ⟨h3.os, h3.tape, h3.output, h3.size, fun k hk hn => h3.block k hk (fun e => hn e.symm)⟩
  exact h v' w' (H.upd (A := As.own e v xs) (B := As.own e v' (xs ++ news)) hf (fun _ h => h) (by show Own 0 w' e v' (xs ++ news); unfold Own; rw [List.length_append]; exact h2) h4) hf h4
theorem wpList_apS (L1 : List As) {L2 : List As} {e : TypeId} {v : Value} {xs : List Value} (H : Sep G w0 w (L1 ++ As.own e v xs :: L2)) (hgd : o.guard = none) (s x : Operand) (t : TypeId)
    (ho : o.op = .call { callee := .builtin .append, args := #[s, x], argTypes := #[t, t] })
    (i : TypeInfo) (z : Value) (bytes : Nat) (ht : P.underlying t = some (.slice e)) (hi : P.info? e = some i) (hz : i.zero = some z)
    (hsize : i.size = 1) (hby : i.bytes = bytes) (hzs : z.cells.size = 1)
    (hs : a.eval s = v) {A : Option Addr} {m c : Nat} {news : List Value} (hx : a.eval x = .slice A m c) (hl : m = news.length) (hr : Rd w A news)
    (h1 : ∀ u ∈ news, u.oneCell' = true) (hlen : xs.length + news.length ≤ 1000000000) (hb : bytes ≤ 1000)
    (h : ∀ v' w', Sep G w0 w' (L1 ++ As.own e v' (xs ++ news) :: L2) → wpList P ops Q rest (a.put o.dst v') w') : wpList P ops Q (o :: rest) a w :=
  wpList_plain hgd fun K hK => wp_apS L1 H s x t ho i z bytes ht hi hz hsize hby hzs hs hx hl hr h1 hlen hb fun v' w' H' _ _ => hK _ _ (h v' w' H')
end
section
variable {G : Nat → Prop} {w0 w w' : World} {L L1 L2 : List As} {A B : As}
/-- a whole block becomes a row that can grow -/
theorem Sep.toOwn (L1 : List As) {L2 : List As} {g : Nat} {e : TypeId} {cs : List Value} (h : Sep G w0 w (L1 ++ As.blk g e cs :: L2)) (hl : cs.length ≤ 1000000000) : Sep G w0 w (L1 ++ As.own e (.slice (some ⟨g, 0, none⟩) cs.length cs.length) cs :: L2) :=
  h.upd (B := As.own e (.slice (some ⟨g, 0, none⟩) cs.length cs.length) cs) (Fr.refl No w) (fun _ h => h.elim) ((h.blk (by simp)).own (Nat.zero_le _) hl) (fun i hi => .inl (by simp [As.own, Value.ownBlock] at hi; exact hi.symm))
theorem Sep.front (L1 : List As) {L2 : List As} (h : Sep G w0 w (L1 ++ A :: L2)) : Sep G w0 w (A :: (L1 ++ L2)) := h.perm List.perm_middle
theorem Sep.back (L1 : List As) {L2 : List As} (h : Sep G w0 w (A :: (L1 ++ L2))) : Sep G w0 w (L1 ++ A :: L2) := h.perm List.perm_middle.symm
/-- both, of what may be shared -/
def As.and (A B : As) : As := ⟨fun k => A.fp k ∨ B.fp k, fun w => A.p w ∧ B.p w, fun h k hk => hk.elim (A.lt h.1 k) (B.lt h.2 k), fun h k => ⟨A.loc h.1 (fun i hi => k i (.inl hi)), B.loc h.2 (fun i hi => k i (.inr hi))⟩⟩
/-- two become one -/
theorem Sep.merge {C : As} (h : Sep G w0 w (A :: B :: L)) (hp : A.p w → B.p w → C.p w) (hf : ∀ i, C.fp i → A.fp i ∨ B.fp i) : Sep G w0 w (C :: L) := by
  have hd := List.pairwise_cons.1 h.dis
  have hd2 := List.pairwise_cons.1 hd.2
  refine ⟨h.fr, ?_, ?_, ?_⟩
  · intro X hX
    rcases List.mem_cons.1 hX with rfl | hX
    · exact hp (h.all A (by simp)) (h.all B (by simp))
    · exact h.all X (by simp [hX])
  · intro X hX i hi
    rcases List.mem_cons.1 hX with rfl | hX
    · rcases hf i hi with h1 | h1
      · exact h.own A (by simp) i h1
      · exact h.own B (by simp) i h1
    · exact h.own X (by simp [hX]) i hi
  · refine List.pairwise_cons.2 ⟨fun X hX i hi hi' => ?_, hd2.2⟩
    rcases hf i hi with h1 | h1
    · exact hd.1 X (by simp [hX]) i h1 hi'
    · exact hd2.1 X hX i h1 hi'
/-- one is weakened -/
theorem Sep.weak (L1 : List As) {L2 : List As} (h : Sep G w0 w (L1 ++ A :: L2)) (hp : A.p w → B.p w) (hf : ∀ i, B.fp i → A.fp i) : Sep G w0 w (L1 ++ B :: L2) :=
  h.upd (B := B) (Fr.refl No w) (fun _ h => h.elim) (hp (h.get (by simp))) (fun i hi => .inl (hf i hi))
end
end Go.Gr
