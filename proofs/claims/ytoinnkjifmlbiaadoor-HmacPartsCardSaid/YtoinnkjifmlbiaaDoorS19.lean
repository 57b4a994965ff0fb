/- Digests read out of text: the plain function; the walks of sha.Parse. -/
import Derived.Lib.ConvBytes
import Derived.Test.YtoinnkjifmlbiaaDoorS14
namespace Go.Proofs.YtoinnkjifmlbiaaDoor
open Go.RowKit Go.Gr
set_option linter.unusedVariables false
attribute [local go_sem] rdOp rdAt rdUpon Cls
def sb (s : ByteArray) : List Int := s.data.toList.map fun b => (b.toNat : Int)
@[simp] theorem sb_length (s : ByteArray) : (sb s).length = s.size := by rw [sb, List.length_map]; exact Array.length_toList
theorem sb_isB (s : ByteArray) : isB (sb s) := fun x hx => by
  obtain ⟨b, _, rfl⟩ := List.mem_map.1 hx
  have := UInt8.toNat_lt b
  omega
theorem sb_getD (s : ByteArray) (k : Nat) (h : k < s.size) : (sb s).getD k 0 = (s[k].toNat : Int) := by
  have h' : k < s.data.toList.length := by rw [Array.length_toList]; exact h
  simp [sb, List.getD_eq_getElem?_getD, List.getElem?_map, List.getElem?_eq_getElem h']
  rfl
theorem conv_str (s : ByteArray) (w : World) : ∃ c w1, (convert 9 22 (.string s)).run Tryd.prog w = .ok (.slice (some ⟨w.heap.size, 0, none⟩) s.size c) w1 ∧ Ext w w1 ∧ Rd w1 (some ⟨w.heap.size, 0, none⟩) (byt (sb s)) := by
  refine ⟨_, _, Lib.run_convert_string_bytes w 9 22 5 s Tryd.underlying9 Tryd.underlying22 Tryd.underlying5, ?_, ?_⟩
  · exact ⟨rfl, rfl, rfl, by rw [Lib.bytesWorld_size]; omega, fun k hk => Lib.bytesWorld_at_old w _ s k hk⟩
  · intro j u hu
    have hj : j < s.size := by
      rcases Nat.lt_or_ge j s.size with h | h
      · exact h
      · rw [List.getElem?_eq_none (by simpa using h)] at hu; cases hu
    refine ⟨_, rfl, ?_⟩
    rw [add0, Lib.bytesWorld_cell w _ s j hj]
    rw [byt_at (sb s) j (by simpa using hj)] at hu
    rw [← hu]
    congr 2
    simp [sb, List.getD_eq_getElem?_getD, List.getElem?_map]
    rcases h : s.data[j]? with _ | b <;> simp
/-- []byte(s): the walk goes on in a world with a name -/
theorem wpList_convS {ops : Array Oper} {rest : List Oper} {o : Oper} {a : Act} {w : World} {Q : Exit → Act → World → Prop} (hgd : o.guard = none) (x : Operand) (ho : o.op = .convert 9 22 x) {s : ByteArray} (hx : a.eval x = .string s)
    (h : ∀ c w1, Ext w w1 → Rd w1 (some ⟨w.heap.size, 0, none⟩) (byt (sb s)) → wpList Tryd.prog ops Q rest (a.put o.dst (.slice (some ⟨w.heap.size, 0, none⟩) s.size c)) w1) : wpList Tryd.prog ops Q (o :: rest) a w := by
  obtain ⟨c, w1, hr, hx1, hr1⟩ := conv_str s w
  refine wpList_plain hgd fun K hK => ?_
  unfold Oper.wp execOp
  simp only [ho, hx, Sem.run_bind, hr, Result.andThen_ok, Sem.run_pure]
  exact hK _ _ (h c w1 hx1 hr1)
def hexv (c : Int) : Int := if 48 ≤ c ∧ c ≤ 57 then c - 48 else if 97 ≤ c ∧ c ≤ 102 then c - 87 else -1
def nb (l : List Int) (k : Nat) : Int := hexv (l.getD k 0)
theorem hexv_range (c : Int) : -1 ≤ hexv c ∧ hexv c < 16 := by unfold hexv; split <;> (try split) <;> omega
theorem nb_range (l : List Int) (k : Nat) : -1 ≤ nb l k ∧ nb l k < 16 := hexv_range _
def prs (l : List Int) : Nat → List Int
  | 0 => []
  | k + 1 => prs l k ++ [16 * nb l (2 * k) + nb l (2 * k + 1)]
theorem prs_length (l : List Int) : ∀ k, (prs l k).length = k
  | 0 => rfl
  | k + 1 => by rw [prs, List.length_append, prs_length l k]; rfl
def okH (l : List Int) (n : Nat) : Bool := (List.range n).all fun k => decide (0 ≤ nb l k)
theorem okH_iff (l : List Int) (n : Nat) : okH l n = true ↔ ∀ k < n, 0 ≤ nb l k := by
  simp [okH]
def zr (n : Nat) : List Int := List.replicate n 0
theorem byt_zr (n : Nat) : byt (zr n) = Z8 n := by simp [byt, zr, Z8]
def parseV (l : List Int) : List Int := if l.length = 64 ∧ okH l 64 = true then prs l 32 else zr 32
def parseE (l : List Int) : Int := if l.length = 64 ∧ okH l 64 = true then 0 else 6
theorem parseV_length (l : List Int) : (parseV l).length = 32 := by
  unfold parseV; split
  · exact prs_length l 32
  · simp [zr]
/-- what lies there after i letters -/
def pw (l : List Int) (i : Nat) : List Int := if i % 2 = 1 then prs l (i / 2) ++ nb l (i - 1) :: zr (31 - i / 2) else prs l (i / 2) ++ zr (32 - i / 2)
theorem pw_length (l : List Int) (i : Nat) (h : i ≤ 64) : (pw l i).length = 32 := by
  unfold pw; split <;> simp [prs_length, zr] <;> omega
def or8 (x v : Int) : Int := bits .or .u8 (x * 16) v
theorem or8_eq (x v : Int) (h0 : 0 ≤ x) (h1 : x < 16) (h2 : 0 ≤ v) (h3 : v < 16) : or8 x v = 16 * x + v := by
  have : ∀ a b : Fin 16, or8 (a.val : Int) (b.val : Int) = 16 * (a.val : Int) + (b.val : Int) := by decide +kernel
  have := this ⟨x.toNat, by omega⟩ ⟨v.toNat, by omega⟩
  simpa [Int.toNat_of_nonneg h0, Int.toNat_of_nonneg h2] using this
theorem set_mid (a : List Int) (x y : Int) (b : List Int) (k : Nat) (h : a.length = k) : (a ++ x :: b).set k y = a ++ y :: b := by
  subst h
  rw [List.set_append_right _ _ (Nat.le_refl _), Nat.sub_self]; rfl
theorem get_mid (a : List Int) (x : Int) (b : List Int) (k : Nat) (h : a.length = k) : (a ++ x :: b).getD k 0 = x := by
  subst h; simp [List.getD_eq_getElem?_getD]
theorem pw_step (l : List Int) (i : Nat) (h : i < 64) (hv : ∀ k ≤ i, 0 ≤ nb l k) : (pw l i).set (i / 2) (or8 ((pw l i).getD (i / 2) 0) (nb l i)) = pw l (i + 1) := by
  obtain ⟨j, hj⟩ : ∃ j, i / 2 = j := ⟨_, rfl⟩
  rcases (show i = 2 * j ∨ i = 2 * j + 1 by omega) with rfl | rfl
  · have e1 : pw l (2 * j) = prs l j ++ 0 :: zr (31 - j) := by
      unfold pw
      rw [if_neg (by omega), show 2 * j / 2 = j by omega]
      have : 32 - j = (31 - j) + 1 := by omega
      rw [this]; rfl
    have e2 : pw l (2 * j + 1) = prs l j ++ nb l (2 * j) :: zr (31 - j) := by
      unfold pw
      rw [if_pos (by omega), show (2 * j + 1) / 2 = j by omega]; rfl
    rw [e1, e2, show 2 * j / 2 = j by omega, get_mid _ _ _ _ (prs_length l j), set_mid _ _ _ _ _ (prs_length l j), or8_eq 0 _ (by omega) (by omega) (hv _ (Nat.le_refl _)) (nb_range l _).2]
    simp
  · have e1 : pw l (2 * j + 1) = prs l j ++ nb l (2 * j) :: zr (31 - j) := by
      unfold pw
      rw [if_pos (by omega), show (2 * j + 1) / 2 = j by omega]; rfl
    have e2 : pw l (2 * j + 1 + 1) = prs l j ++ (16 * nb l (2 * j) + nb l (2 * j + 1)) :: zr (31 - j) := by
      unfold pw
      rw [if_neg (by omega), show (2 * j + 1 + 1) / 2 = j + 1 by omega, prs, show 32 - (j + 1) = 31 - j by omega]; simp
    rw [e1, e2, show (2 * j + 1) / 2 = j by omega, get_mid _ _ _ _ (prs_length l j), set_mid _ _ _ _ _ (prs_length l j), or8_eq _ _ (hv _ (by omega)) (nb_range l _).2 (hv _ (Nat.le_refl _)) (nb_range l _).2]
theorem pw_at (l : List Int) (i : Nat) (h : i < 64) (hv : ∀ k < i, 0 ≤ nb l k) : 0 ≤ (pw l i).getD (i / 2) 0 ∧ (pw l i).getD (i / 2) 0 < 16 := by
  obtain ⟨j, hj⟩ : ∃ j, i / 2 = j := ⟨_, rfl⟩
  rcases (show i = 2 * j ∨ i = 2 * j + 1 by omega) with rfl | rfl
  · have e1 : pw l (2 * j) = prs l j ++ 0 :: zr (31 - j) := by
      unfold pw
      rw [if_neg (by omega), show 2 * j / 2 = j by omega]
      have : 32 - j = (31 - j) + 1 := by omega
      rw [this]; rfl
    rw [e1, show 2 * j / 2 = j by omega, get_mid _ _ _ _ (prs_length l j)]; omega
  · have e1 : pw l (2 * j + 1) = prs l j ++ nb l (2 * j) :: zr (31 - j) := by
      unfold pw
      rw [if_pos (by omega), show (2 * j + 1) / 2 = j by omega]; rfl
    rw [e1, show (2 * j + 1) / 2 = j by omega, get_mid _ _ _ _ (prs_length l j)]
    exact ⟨hv _ (by omega), (nb_range l _).2⟩
theorem byt_set (l : List Int) (k : Nat) (x : Int) : (byt l).set k (.int .u8 x) = byt (l.set k x) := by simp [byt, List.map_set]
end Go.Proofs.YtoinnkjifmlbiaaDoor
