/- Lists of waiters: the arguments of the laws; what a call does to one section. -/
import Derived.Test.YteecgieigjfjiaaW20
import Derived.Test.YteecgieigjfjiaaRows2
import Derived.Test.YteecgieigjfjiaaFlat
namespace Go.Proofs.Yteecgieigjfjiaa
open Go.RowKit Go.Gr Go.Wl
set_option linter.unusedVariables false
set_option linter.unusedSimpArgs false
/-- a call: what, the section, the owner -/
structure Cl where
  what : Int
  sec : Int
  own : Int
structure Cl.ok (x : Cl) : Prop where
  w : 0 ≤ x.what ∧ x.what < 256
  s : -9223372036854775808 ≤ x.sec ∧ x.sec ≤ 9223372036854775807
  o : 0 ≤ x.own ∧ x.own < 4294967296
def xc (x : Cl) : List Value := [.int .u8 x.what, .int .i64 x.sec, .int .u32 x.own]
theorem callL {w : World} {cs : List Value} (h0 : Lvs Try.prog w [.int .u8, .int .i64, .int .u32] cs) : ∃ x : Cl, cs = xc x ∧ x.ok := by
  obtain ⟨_, _, rfl, ⟨a, rfl, ha⟩, h1⟩ := h0.cons
  obtain ⟨_, _, rfl, ⟨b, rfl, hb⟩, h2⟩ := h1.cons
  obtain ⟨_, _, rfl, ⟨c, rfl, hc⟩, h3⟩ := h2.cons
  obtain rfl := h3.nil_
  exact ⟨⟨a, b, c⟩, rfl, ⟨wf_u8 ha, wf_i64 hb, wf_u32 hc⟩⟩
theorem exists_list {α β : Type} {p : α → β → Prop} : ∀ (rows : List β), (∀ r ∈ rows, ∃ x, p x r) → ∃ l : List α, l.length = rows.length ∧ ∀ i (h1 : i < l.length) (h2 : i < rows.length), p l[i] rows[i]
  | [], _ => ⟨[], rfl, fun i h1 => by simp at h1⟩
  | r :: rows, h => by
    obtain ⟨x, hx⟩ := h r (by simp)
    obtain ⟨l, hl, hp⟩ := exists_list rows (fun r hr => h r (by simp [hr]))
    refine ⟨x :: l, by simp [hl], fun i h1 h2 => ?_⟩
    cases i with
    | zero => exact hx
    | succ i => exact hp i (by simpa using h1) (by simpa using h2)
theorem callsA {w : World} {v : Value} (h : LfOk Try.prog w (.slice 31) v) : ∃ (A : Option Addr) (l : List Cl) (c : Nat), v = .slice A l.length c ∧ RdM w A 3 (l.map xc) ∧ (∀ x ∈ l, x.ok) ∧ l.length ≤ c ∧ c ≤ maxLen := by
  obtain ⟨A, rows, c, rfl, hr, hL, hc, hm⟩ := slice_lvs (L := [.int .u8, .int .i64, .int .u32]) 8 (by kernel_rfl) (by kernel_rfl) h
  obtain ⟨l, hl, hp⟩ := exists_list (p := fun x r => r = xc x ∧ x.ok) rows (fun r hr => callL (hL r hr))
  have e : l.map xc = rows := by
    apply List.ext_getElem (by simp [hl])
    intro i h1 h2
    rw [List.getElem_map]
    exact ((hp i (by simpa using h1) h2).1).symm
  refine ⟨A, l, c, by rw [hl], by rw [e]; exact hr, fun x hx => ?_, by omega, hm⟩
  obtain ⟨i, hi, rfl⟩ := List.getElem_of_mem hx
  exact (hp i hi (by omega)).2
theorem call_at {w : World} {A : Option Addr} {l : List Cl} (h : RdM w A 3 (l.map xc)) {k : Nat} (hk : k < l.length) : ∃ b off, A = some ⟨b, off, none⟩ ∧ w.cell? ⟨b, off + k * 3, none⟩ = some (.int .u8 l[k].what) ∧ w.cell? ⟨b, off + k * 3 + 1, none⟩ = some (.int .i64 l[k].sec) ∧ w.cell? ⟨b, off + k * 3 + 2, none⟩ = some (.int .u32 l[k].own) ∧ b < w.heap.size := by
  obtain ⟨b, off, e, hc⟩ := h.at_ (fun r hr => by
    obtain ⟨x, _, rfl⟩ := List.mem_map.1 hr
    exact Nat.succ_pos _) (i := k) (r := xc l[k]) (by simp [hk])
  have h0 := hc 0 _ rfl
  exact ⟨b, off, e, h0, hc 1 _ rfl, hc 2 _ rfl, cell_lt h0⟩
theorem ints_arg {w : World} {v : Value} (h : LfOk Try.prog w (.slice 3) v) : ∃ A l c, v = .slice A l.length c ∧ Rd w A (i64s l) ∧ (∀ x ∈ l, -9223372036854775808 ≤ x ∧ x ≤ 9223372036854775807) ∧ l.length ≤ c ∧ c ≤ maxLen := by
  obtain ⟨A, l, c, rfl, h1, h2, h3, h4⟩ := slice_ints Try.underlying3 (by kernel_rfl) h
  exact ⟨A, l, c, rfl, h1, fun x hx => wf_i64 (h2 x hx), h3, h4⟩
theorem step_join (n : Nat) (ws : List Int) (o : Int) : ∃ ws', (joinS (S1 n ws) 0 o).1 = S1 n ws' ∧ Step ws ws' := by
  by_cases h : ws.length = n
  · exact ⟨ws, by rw [join1_full o h], .same _⟩
  · by_cases ho : o ∈ ws
    · exact ⟨ws, by rw [join1_twice h ho], .same _⟩
    · exact ⟨ws ++ [o], by rw [join1_ok h ho], .app _ _ ho⟩
theorem step_leave (n : Nat) (ws : List Int) (o : Int) : ∃ ws', (leaveS (S1 n ws) 0 o).1 = S1 n ws' ∧ Step ws ws' := by
  by_cases ho : o ∈ ws
  · exact ⟨_, by rw [leave1_ok ho], .del _ _⟩
  · exact ⟨ws, by rw [leave1_no ho], .same _⟩
theorem step_take (n : Nat) (ws : List Int) : ∃ ws', (takeS (S1 n ws) 0).1 = S1 n ws' ∧ Step ws ws' := by
  cases ws with
  | nil => exact ⟨[], by rw [take1_no], .same _⟩
  | cons x t => exact ⟨t, by rw [take1_ok], by have := Step.del (x :: t) 0; rwa [List.eraseIdx_zero] at this⟩
theorem mod8 {x : Int} (h : 0 ≤ x ∧ x < 256) : ∃ m : Int, x.tmod 8 = m ∧ (m = 0 ∨ m = 1 ∨ m = 2 ∨ m = 3 ∨ m = 4 ∨ m = 5 ∨ m = 6 ∨ m = 7) := ⟨_, rfl, by rw [Int.tmod_eq_emod_of_nonneg h.1]; omega⟩
end Go.Proofs.Yteecgieigjfjiaa
