/- General: within a round of a range over a function, a region is walked as anywhere else. -/
import Derived.RangeFuncNested
import Derived.RangeFuncCalls
import Derived.TacticsInMore
import Derived.OrdersIn
import Derived.Test.YtkhinagagncblaaDoorMonoS
namespace Go.Gr
open Go.RowKit Go.Sort
set_option linter.unusedVariables false
def noDefer (o : Oper) : Bool := match o.op with | .defer _ => false | _ => true
section
variable {P : Program} {ops : Array Oper} {Q : Exit → Act → World → Prop} {n l : Nat}
theorem op_in {o : Oper} {a : Act} {w : World} {K : Act → World → Prop} (hd : noDefer o = true) (h : o.wp P a w K Q) : o.wpIn (Fence.wide.inRound l) n P a w K Q := by
  refine ⟨fun f _ => trivial, ?_⟩
  have e : o.semAt (Fence.wide.inRound l).round a.eval = execOp a.eval o := Oper.semAt_some l a.eval o (fun c hc => by simp [noDefer, hc] at hd)
  rw [e]
  unfold Oper.wp at h
  generalize (execOp a.eval o).run P w = r at *
  cases r with
  | ok x w' =>
    cases x <;> simp only [Oper.upon, Oper.uponIn] at h ⊢
    · exact h
    · exact h
    · exact ⟨fun h => (by cases h), CallsIn.inRound l (callsIn_wide.2 h)⟩
    · exact h
    · refine ⟨fun h => (by cases h), fun c cs _ => ?_⟩
      obtain ⟨v, w2, h1, h2⟩ := h c cs
      exact ⟨v, w2, h1, stepsIn_wide.2 h2⟩
  | halt x w' => cases x <;> simp only [Oper.upon, Oper.uponIn] at h ⊢ <;> exact h
theorem skip_in {o : Oper} {a : Act} {w : World} : ∀ f, o.about P w a.eval = some f → (Fence.wide.inRound l).fn f := fun _ _ => trivial
/-- a list of operations -/
theorem list_in (hQ : ∀ a w, ¬ Q .outgrown a w) : ∀ (rest : List Oper) (a : Act) (w : World), (rest.all noDefer) = true → wpList P ops Q rest a w → wpListIn (Fence.wide.inRound l) n P ops Q rest a w
  | [], a, w, _, h => h
  | o :: rest, a, w, hd, h => by
    rw [List.all_cons, Bool.and_eq_true] at hd
    unfold wpList at h
    unfold wpListIn
    split
    · rename_i hw
      rw [if_pos hw] at h
      rcases h with h | ⟨_, a0, w0, h⟩
      · exact Oper.wpIn_mono (fun a' w' h' => list_in hQ rest a' w' hd.2 h') (op_in hd.1 h)
      · exact (hQ _ _ h).elim
    · rename_i hw
      rw [if_neg hw] at h
      exact ⟨skip_in, list_in hQ rest _ w hd.2 h⟩
theorem wpIn_round {id : Nat} {L : List Oper} {a : Act} {w : World} (hQ : ∀ a w, ¬ Q .outgrown a w) (hd : (L.all noDefer) = true) (h : wpList P L.toArray Q L a w) : (Code.region id L.toArray false).wpIn (Fence.wide.inRound l) n P Q a w :=
  wpIn_region_lit (list_in hQ L a w hd h)
theorem wpOp_in {i : Nat} {K : Act → World → Prop} {a : Act} {w : World} (hQ : ∀ a w, ¬ Q .outgrown a w) (hd : ∀ o, ops[i]? = some o → noDefer o = true) (h : wpOp P ops Q i K a w) : wpOpIn (Fence.wide.inRound l) n P ops Q i K a w := by
  unfold wpOp at h
  unfold wpOpIn
  cases ho : ops[i]? with
  | none => simpa [ho] using h
  | some o =>
    simp only [ho] at h ⊢
    split
    · rename_i hw
      rw [if_pos hw] at h
      rcases h with h | ⟨_, a0, w0, h⟩
      · exact op_in (hd o ho) h
      · exact (hQ _ _ h).elim
    · rename_i hw
      rw [if_neg hw] at h
      exact ⟨skip_in, h⟩
theorem wpAny_in {md : Region.Mode} (hQ : ∀ a w, ¬ Q .outgrown a w) (hd : ∀ (i : Nat) o, ops[i]? = some o → noDefer o = true) : ∀ (fuel : Nat) (listed : Array Bool) (a : Act) (w : World), wpAny P md ops Q fuel listed a w → wpAnyIn (Fence.wide.inRound l) n P md ops Q fuel listed a w
  | 0, listed, a, w, h => h
  | fuel + 1, listed, a, w, h => ⟨h.1, fun i hi => wpOp_in hQ (hd i) (wpOp_mono (fun a' w' h' => wpAny_in hQ hd fuel _ a' w' h') (h.2 i hi))⟩
theorem all_get {L : List Oper} (hd : (L.all noDefer) = true) (i : Nat) (o : Oper) (h : L.toArray[i]? = some o) : noDefer o = true := by
  rw [List.getElem?_toArray] at h
  exact List.all_eq_true.1 hd o (List.mem_of_getElem? h)
/-- a region that draws its order -/
theorem wpIn_round_draw {id : Nat} {L : List Oper} {a : Act} {w : World} (hQ : ∀ a w, ¬ Q .outgrown a w) (hd : (L.all noDefer) = true) (hm : P.follows .mixedOrders = true)
    (h : wpAny P .any L.toArray Q L.toArray.size (Array.replicate L.toArray.size false) a w.drew) : (Code.region id L.toArray true).wpIn (Fence.wide.inRound l) n P Q a w :=
  wpIn_region_any hm (wpAny_in hQ (all_get hd) _ _ _ _ h)
theorem wpIn_round_wm {id : Nat} {L : List Oper} {a : Act} {w : World} (perm : List Nat) (hQ : ∀ a w, ¬ Q .outgrown a w) (hd : (L.all noDefer) = true) (hm : P.follows .mixedOrders = true) (hs : (L.all fun o => !isSel o) = true) (hl : perm.length = L.toArray.size)
    (hok : okAll L.toArray (Array.replicate L.toArray.size false) perm = true) (h : WM P L.toArray (NoPanic Q) perm a w.drew) : (Code.region id L.toArray true).wpIn (Fence.wide.inRound l) n P Q a w := by
  refine Code.wpIn_mono NoPanic.imp (wpIn_round_draw (Q := NoPanic Q) (fun a w h => hQ a w h) hd hm (wpAny_of_held (S := Ext w.drew) _ _ _ _ ?_))
  rw [← hl] at *
  refine run_mono ?_ (fun c a w h => h) perm _ a _ hok h.out
  intro j o cs b hj he
  have hmem : o ∈ L := by
    rw [List.getElem?_toArray] at hj
    exact List.mem_of_getElem? hj
  have := List.all_eq_true.1 hs o hmem
  simp [isSel, he] at this
end
/-- what a round may not turn: these blocks -/
def KpS (S : Nat → Prop) (W W' : World) : Prop := W.heap.size ≤ W'.heap.size ∧ ∀ k, S k → W'.heap[k]? = W.heap[k]?
theorem kpS_t {S : Nat → Prop} {A B C : World} (h : KpS S A B) (k : KpS S B C) : KpS S A C := ⟨Nat.le_trans h.1 k.1, fun i hi => (k.2 i hi).trans (h.2 i hi)⟩
theorem kpS_b {S : Nat → Prop} {w : World} (hS : ∀ k, S k → k < w.heap.size) (W : World) (l : Nat) (o o' : Obj) (hl : w.heap.size ≤ l) (h : W.heap[l]? = some o) (_ : o.isCells = false) (_ : o.isWalk = false) : KpS S W (W.putObj l o') :=
  ⟨by simp, fun k hk => World.putObj_heap_other (by have := hS k hk; omega)⟩
theorem kpS_refl (S : Nat → Prop) (W : World) : KpS S W W := ⟨Nat.le_refl _, fun _ _ => rfl⟩
theorem kpS_fr {S T : Nat → Prop} {W W' : World} (h : Fr T W W') (hs : ∀ k, S k → k < W.heap.size) (hd : ∀ k, S k → ¬ T k) : KpS S W W' := ⟨h.size, fun k hk => h.block k (hs k hk) (hd k hk)⟩
theorem kpS_ext {S : Nat → Prop} {W W' : World} (h : Ext W W') (hs : ∀ k, S k → k < W.heap.size) : KpS S W W' := ⟨h.size, fun k hk => h.block k (hs k hk)⟩
/-- what a round may not turn: these blocks, and all of this type -/
def KpT (S : Nat → Prop) (t : TypeId) (W W' : World) : Prop := W.heap.size ≤ W'.heap.size ∧ (∀ k, S k → W'.heap[k]? = W.heap[k]?) ∧ ∀ (k : Nat) cs fr, W.heap[k]? = some (Obj.cells cs t fr) → W'.heap[k]? = W.heap[k]?
theorem kpT_t {S : Nat → Prop} {t : TypeId} {A B C : World} (h : KpT S t A B) (k : KpT S t B C) : KpT S t A C :=
  ⟨Nat.le_trans h.1 k.1, fun i hi => (k.2.1 i hi).trans (h.2.1 i hi), fun i cs fr hi => (k.2.2 i cs fr ((h.2.2 i cs fr hi).trans hi)).trans (h.2.2 i cs fr hi)⟩
theorem kpT_b {S : Nat → Prop} {t : TypeId} {w : World} (hS : ∀ k, S k → k < w.heap.size) (W : World) (l : Nat) (o o' : Obj) (hl : w.heap.size ≤ l) (h : W.heap[l]? = some o) (hc : o.isCells = false) (_ : o.isWalk = false) : KpT S t W (W.putObj l o') :=
  ⟨by simp, fun k hk => World.putObj_heap_other (by have := hS k hk; omega), fun k cs fr hk => World.putObj_heap_other (fun e => by subst e; rw [hk] at h; cases h; cases hc)⟩
theorem kpT_refl (S : Nat → Prop) (t : TypeId) (W : World) : KpT S t W W := ⟨Nat.le_refl _, fun _ _ => rfl, fun _ _ _ _ => rfl⟩
theorem kpT_ext {S : Nat → Prop} {t : TypeId} {W W' : World} (h : Ext W W') (hs : ∀ k, S k → k < W.heap.size) : KpT S t W W' :=
  ⟨h.size, fun k hk => h.block k (hs k hk), fun k cs fr hk => h.block k (Array.getElem?_eq_some_iff.1 hk).1⟩
theorem kpT_fr {S T : Nat → Prop} {t : TypeId} {W W' : World} (h : Fr T W W') (hs : ∀ k, S k → k < W.heap.size) (hd : ∀ k, S k → ¬ T k) (ht : ∀ k, T k → ∃ cs t' fr, W.heap[k]? = some (Obj.cells cs t' fr) ∧ t' ≠ t) : KpT S t W W' :=
  ⟨h.size, fun k hk => h.block k (hs k hk) (hd k hk), fun k cs fr hk => h.block k (Array.getElem?_eq_some_iff.1 hk).1 (fun hT => by
    obtain ⟨cs', t', fr', h1, h2⟩ := ht k hT
    rw [hk] at h1; cases h1; exact h2 rfl)⟩
/-- what turns cells alone keeps all else -/
theorem keepsFrom_fr {T : Nat → Prop} {B : Nat} {W W' : World} (h : Fr T W W') (hc : ∀ k, T k → ∃ o : Obj, W.heap[k]? = some o ∧ o.isCells = true) : KeepsFrom B W W' :=
  ⟨h.size, fun k o _ ho hn => by
    refine (h.block k (Array.getElem?_eq_some_iff.1 ho).1 fun hT => ?_).trans ho
    obtain ⟨o', ho', hc'⟩ := hc k hT
    rw [ho] at ho'; cases ho'; rw [hn] at hc'; cases hc'⟩
/-- the blocks of some assertions -/
def Fp (L : List As) : Nat → Prop := fun k => ∃ A ∈ L, A.fp k
theorem Sep.rebase {w W : World} {L : List As} (h : Sep No w W L) : Sep (Fp L) W W L := ⟨Fr.refl _ _, h.all, fun A hA k hk => .inl ⟨A, hA, hk⟩, h.dis⟩
theorem Sep.glue {w W W' : World} {L L' M : List As} (h : Sep No w W (L ++ M)) (h' : Sep (Fp L) W W' L') : Sep No w W' (L' ++ M) := by
  have hd := List.pairwise_append.1 h.dis
  have low : ∀ k, Fp L k → w.heap.size ≤ k := fun k ⟨A, hA, hk⟩ => by
    rcases h.own A (List.mem_append_left _ hA) k hk with h1 | h1
    · exact h1.elim
    · exact h1
  refine ⟨⟨h'.fr.os.trans h.fr.os, h'.fr.tape.trans h.fr.tape, h'.fr.output.trans h.fr.output, Nat.le_trans h.fr.size h'.fr.size, fun k hk hn => ?_⟩, ?_, ?_, ?_⟩
  · exact (h'.fr.block k (Nat.lt_of_lt_of_le hk h.fr.size) (fun hf => by have := low k hf; omega)).trans (h.fr.block k hk hn)
  · intro A hA
    rcases List.mem_append.1 hA with hA | hA
    · exact h'.all A hA
    · have hp := h.all A (List.mem_append_right _ hA)
      exact A.loc hp fun k hk => h'.fr.block k (A.lt hp k hk) (fun ⟨B, hB, hb⟩ => hd.2.2 B hB A hA k hb hk)
  · intro A hA k hk
    rcases List.mem_append.1 hA with hA | hA
    · rcases h'.own A hA k hk with h1 | h1
      · exact .inr (low k h1)
      · exact .inr (Nat.le_trans h.fr.size h1)
    · exact h.own A (List.mem_append_right _ hA) k hk
  · refine List.pairwise_append.2 ⟨h'.dis, hd.2.1, fun A hA B hB k hk hk' => ?_⟩
    have hp := h.all B (List.mem_append_right _ hB)
    have hlt := B.lt hp k hk'
    rcases h'.own A hA k hk with ⟨C, hC, hc⟩ | h1
    · exact hd.2.2 C hC B hB k hc hk'
    · omega
/-- its blocks are cells, of another type -/
def Typ (t : TypeId) (A : As) : Prop := ∀ (W : World) (k : Nat), A.p W → A.fp k → ∃ cs t' fr, W.heap[k]? = some (Obj.cells cs t' fr) ∧ t' ≠ t
theorem typB {t : TypeId} (g : Nat) (e : TypeId) (cs : List Value) (h : e ≠ t) : Typ t (As.blk g e cs) := fun W k hp hk => by cases hk; exact ⟨_, _, _, hp, h⟩
theorem typM {t : TypeId} (e : TypeId) (k : Nat) (v : Value) (rows : List (List Value)) (he : e ≠ t) : Typ t (As.ownM e k v rows) := fun W i h hi => by
  rcases h.row.2 with ⟨rfl, _⟩ | ⟨g, cap, cur, rfl, _, hh, _⟩
  · cases hi
  · cases hi; exact ⟨_, _, _, hh, he⟩
theorem typO {t : TypeId} (e : TypeId) (v : Value) (xs : List Value) (he : e ≠ t) : Typ t (As.own e v xs) := fun W i h hi => by
  rcases h.2 with ⟨rfl, _⟩ | ⟨g, cap, cur, rfl, _, hh, _⟩
  · cases hi
  · cases hi; exact ⟨_, _, _, hh, he⟩
/-- what a round owes, out of its walk over what it turns -/
theorem body_post {w W W' : World} {B : Nat} {t : TypeId} {S : Nat → Prop} {L L' M : List As} (hI : Sep No w W (L ++ M)) (h' : Sep (Fp L) W W' L') (hty : ∀ A ∈ L, Typ t A) (hS : ∀ k, S k → Fp M k) :
    KeepsFrom B W W' ∧ KpT S t W W' ∧ Sep No w W' (L' ++ M) := by
  have hd := List.pairwise_append.1 hI.dis
  have typ : ∀ k, Fp L k → ∃ cs t' fr, W.heap[k]? = some (Obj.cells cs t' fr) ∧ t' ≠ t := fun k ⟨A, hA, hk⟩ => hty A hA W k (hI.all A (List.mem_append_left _ hA)) hk
  refine ⟨keepsFrom_fr h'.fr (fun k hk => ?_), kpT_fr h'.fr (fun k hk => ?_) (fun k hk hL => ?_) typ, hI.glue h'⟩
  · obtain ⟨cs, t', fr, h1, _⟩ := typ k hk
    exact ⟨_, h1, rfl⟩
  · obtain ⟨A, hA, hk⟩ := hS k hk
    exact A.lt (hI.all A (List.mem_append_right _ hA)) k hk
  · obtain ⟨A, hA, hk⟩ := hS k hk
    obtain ⟨C, hC, hc⟩ := hL
    exact hd.2.2 C hC A hA k hc hk
end Go.Gr
