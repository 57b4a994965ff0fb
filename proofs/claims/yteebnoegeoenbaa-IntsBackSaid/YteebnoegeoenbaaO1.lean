/- Big-endian bytes are ordered as their numbers; the lengths of numbers of variable length. Plain Lean. -/
import Derived.Test.YteebnoegeoenbaaL1
import Derived.Laws.BytesArg
namespace Go.Proofs.Yteebnoegeoenbaa
open Go.RowKit Go.Gr
set_option linter.unusedVariables false
theorem str_list (l : List Int) : (strOfNums l).toList = l.map fun n => UInt8.ofNat n.toNat := by
  rw [ByteArray.toList_eq]; simp [strOfNums]
theorem bev_from (l : List Int) : ∀ n, l.foldl (fun n x => 256 * n + x) n = n * 256 ^ l.length + bev l := by
  unfold bev
  induction l with
  | nil => intro n; simp
  | cons x r ih =>
    intro n
    rw [List.foldl_cons, List.foldl_cons, ih, ih (256 * 0 + x), List.length_cons, Int.pow_succ, Int.add_mul, Int.mul_zero, Int.zero_add, Int.add_assoc, Int.mul_comm 256 n, Int.mul_assoc, Int.mul_comm 256]
theorem bev_cons (x : Int) (l : List Int) : bev (x :: l) = x * 256 ^ l.length + bev l := by
  have := bev_from l (256 * 0 + x)
  rw [Int.mul_zero, Int.zero_add] at this
  rw [← this]; simp [bev]
theorem byte_lt {x y : Int} (hx : 0 ≤ x ∧ x < 256) (hy : 0 ≤ y ∧ y < 256) : (UInt8.ofNat x.toNat < UInt8.ofNat y.toNat ↔ x < y) ∧ (UInt8.ofNat x.toNat = UInt8.ofNat y.toNat ↔ x = y) := by
  constructor
  · rw [UInt8.lt_iff_toNat_lt, UInt8.toNat_ofNat', UInt8.toNat_ofNat', Nat.mod_eq_of_lt (by omega), Nat.mod_eq_of_lt (by omega)]; omega
  · rw [← UInt8.toNat_inj, UInt8.toNat_ofNat', UInt8.toNat_ofNat', Nat.mod_eq_of_lt (by omega), Nat.mod_eq_of_lt (by omega)]; omega
theorem less_bev : ∀ (l m : List Int), l.length = m.length → isB l → isB m → Op.bytesLess (l.map fun n => UInt8.ofNat n.toNat) (m.map fun n => UInt8.ofNat n.toNat) = decide (bev l < bev m)
  | [], [], _, _, _ => by simp [Op.bytesLess, bev]
  | [], _ :: _, h, _, _ => by simp at h
  | _ :: _, [], h, _, _ => by simp at h
  | x :: l, y :: m, h, hl, hm => by
    have hlen : l.length = m.length := by simpa using h
    have hl' : isB l := fun z hz => hl z (List.mem_cons_of_mem _ hz)
    have hm' : isB m := fun z hz => hm z (List.mem_cons_of_mem _ hz)
    obtain ⟨c1, c2⟩ := byte_lt (hl x (List.mem_cons_self ..)) (hm y (List.mem_cons_self ..))
    have ih := less_bev l m hlen hl' hm'
    obtain ⟨b1, b2⟩ := bev_bound l.length l rfl hl'
    obtain ⟨b3, b4⟩ := bev_bound m.length m rfl hm'
    rw [List.map_cons, List.map_cons, Op.bytesLess, ih, bev_cons, bev_cons, hlen]
    rw [hlen] at b2
    rw [Bool.eq_iff_iff]
    simp only [Bool.or_eq_true, Bool.and_eq_true, decide_eq_true_eq, beq_iff_eq, c1, c2]
    have hp : (0 : Int) < 256 ^ m.length := by exact Int.pow_pos (by decide)
    rcases Int.lt_trichotomy x y with hlt | heq | hgt
    · have := Int.mul_le_mul_of_nonneg_right (show x + 1 ≤ y by omega) (Int.le_of_lt hp)
      rw [Int.add_mul, Int.one_mul] at this
      omega
    · subst heq; omega
    · have := Int.mul_le_mul_of_nonneg_right (show y + 1 ≤ x by omega) (Int.le_of_lt hp)
      rw [Int.add_mul, Int.one_mul] at this
      omega
theorem be_isB : ∀ k n, isB (be k n)
  | 0, _ => fun x hx => by simp [be] at hx
  | k + 1, n => fun x hx => by
    rw [be, List.mem_append] at hx
    rcases hx with hx | hx
    · exact be_isB k _ x hx
    · simp at hx; omega
theorem bev_be : ∀ (k : Nat) (n : Int), 0 ≤ n → n < 256 ^ k → bev (be k n) = n
  | 0, n, h0, h1 => by simp at h1; simp [be, bev]; omega
  | k + 1, n, h0, h1 => by
    rw [be, bev_snoc, bev_be k (n / 256) (by omega) (by rw [Int.pow_succ] at h1; omega)]; omega
theorem be_less (k : Nat) (a b : Int) (ha : 0 ≤ a ∧ a < 256 ^ k) (hb : 0 ≤ b ∧ b < 256 ^ k) :
    Op.bytesLess (strOfNums (be k a)).toList (strOfNums (be k b)).toList = decide (a < b) := by
  rw [str_list, str_list, less_bev _ _ (by rw [be_length, be_length]) (be_isB _ _) (be_isB _ _), bev_be k a ha.1 ha.2, bev_be k b hb.1 hb.2]
theorem vbF_mono : ∀ (k : Nat) (a b : Int), a ≤ b → (vbF k a).length ≤ (vbF k b).length
  | 0, _, _, _ => by simp [vbF]
  | k + 1, a, b, h => by
    have := vbF_mono k (a / 128) (b / 128) (by omega)
    rw [vbF, vbF]
    split <;> split <;> simp <;> omega
theorem vb_mono {a b : Int} (h : a ≤ b) : (vb a).length ≤ (vb b).length := vbF_mono 10 a b h
theorem vb_pos (a : Int) : 1 ≤ (vb a).length := by
  rw [vb, vbF]; split <;> simp
theorem vb_ten (a : Int) : (vb a).length ≤ 10 := vbF_len 10 a
theorem putE_two (n d : Int) : putE n d = 7 ∨ putE n d = 0 := by unfold putE; split <;> simp
theorem put_good {n : Int} {k : Nat} (h0 : 0 ≤ n) (h : putE n k = 0) : n < 256 ^ k ∧ putB [] n k = be k n := by
  rw [putB, h]
  unfold putE at h
  split at h
  · cases h
  · rename_i g
    rw [Int.toNat_natCast] at g ⊢
    exact ⟨by omega, by simp⟩
theorem put_less {a b : Int} {k : Nat} (ha : 0 ≤ a) (hb : 0 ≤ b) (h : putE a k = 0) (h' : putE b k = 0) :
    (putB [] a k).length = k ∧ (putB [] b k).length = k ∧ Op.bytesLess (strOfNums (putB [] a k)).toList (strOfNums (putB [] b k)).toList = decide (a < b) := by
  obtain ⟨g1, g2⟩ := put_good ha h
  obtain ⟨g3, g4⟩ := put_good hb h'
  rw [g2, g4]
  exact ⟨be_length _ _, be_length _ _, be_less k a b ⟨ha, g1⟩ ⟨hb, g3⟩⟩
end Go.Proofs.Yteebnoegeoenbaa
