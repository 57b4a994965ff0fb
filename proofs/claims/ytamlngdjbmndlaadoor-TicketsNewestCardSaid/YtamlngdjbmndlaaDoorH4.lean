/- Hmac: the walk of pad. -/
import Derived.Laws.BitsAllLaws
import Derived.Test.YtamlngdjbmndlaaDoorH3
namespace Go.Proofs.YtamlngdjbmndlaaDoor
open Go.RowKit Go.Gr
set_option linter.unusedVariables false
set_option linter.unusedSimpArgs false
attribute [local go_sem] rdOp rdAt rdUpon Cls forall_fr
/-- each byte combined with one -/
def xorB (c : Int) (l : List Int) : List Int := l.map fun x => bits .xor .u8 x c
theorem xorB_len (c : Int) (l : List Int) : (xorB c l).length = l.length := by simp [xorB]
theorem xorB_isB {c : Int} {l : List Int} (hc : 0 ≤ c ∧ c < 256) (h : isB l) : isB (xorB c l) := by
  intro x hx
  obtain ⟨y, hy, rfl⟩ := List.mem_map.1 hx
  have hy2 := h y hy
  rw [u8_xor y c hy2.1 hy2.2 hc.1 hc.2]
  have : y.toNat ^^^ c.toNat < 2 ^ 8 := Nat.xor_lt_two_pow (by omega) (by omega)
  omega
/-- the first k of them combined -/
def xorTo (c : Int) (k : Nat) (l : List Int) : List Int := xorB c (l.take k) ++ l.drop k
theorem xorTo_len (c : Int) (k : Nat) (l : List Int) : (xorTo c k l).length = l.length := by
  unfold xorTo; rw [List.length_append, xorB_len, ← List.length_append, List.take_append_drop]
theorem xorTo_get {c : Int} {k : Nat} {l : List Int} (h : k < l.length) : (xorTo c k l)[k]? = some l[k] := by
  unfold xorTo
  rw [List.getElem?_append_right (by rw [xorB_len]; simp; omega), xorB_len, List.length_take, Nat.min_eq_left (by omega), Nat.sub_self, List.getElem?_drop, Nat.add_zero, List.getElem?_eq_getElem h]
theorem xorTo_set {c : Int} {k : Nat} {l : List Int} (h : k < l.length) : (xorTo c k l).set k (bits .xor .u8 l[k] c) = xorTo c (k + 1) l := by
  unfold xorTo
  have hk : (xorB c (l.take k)).length = k := by rw [xorB_len, List.length_take]; omega
  rw [List.set_append_right _ _ (by omega), hk, Nat.sub_self, List.drop_eq_getElem_cons h, List.set_cons_zero, List.take_succ_eq_append_getElem h]
  simp only [xorB, List.map_append, List.map_cons, List.map_nil, List.append_assoc, List.singleton_append]
theorem byt_set (l : List Int) (k : Nat) (x : Int) : (byt l).set k (.int .u8 x) = byt (l.set k x) := by unfold byt; rw [List.map_set]
/-- it returns a slice of new bytes -/
def RetB (w : World) (l : List Int) (e : Ending) (w' : World) : Prop := ∃ g : Nat, e = .returned (.slice (some ⟨g, 0, none⟩) l.length l.length) ∧ w.heap.size ≤ g ∧ Rd w' (some ⟨g, 0, none⟩) (byt l) ∧ Ext w w'
set_option maxRecDepth 100000 in
set_option maxHeartbeats 2000000 in
theorem mpad_any (l : List Int) (A : Option Addr) (c : Nat) (x : Int) (w : World) (hl : Laid w) (hr : Rd w A (byt l)) (hb : isB l) (hc : l.length ≤ c) (hlen : l.length ≤ 100000) :
    Calls Tryd.prog 62 #[.slice A l.length c, .int .u8 x] w (RetB w (xorB x (keyB l))) := by
  have HL := hide hl
  have HR := hide hr
  have HB := hide hb
  have HKL : Hid ((byt (keyB l)).length = 64) := hide (by rw [byt_length, keyB_len])
  have hkl : (keyB l).length = 64 := keyB_len l
  have HKn := hide hkl
  clear hl hr hb hkl
  have tok : True := trivial
  have tok2 : True := trivial
  go_enter Tryd.func62, Tryd.ntmps62
  go_wp2_with fail
  (with_reducible refine (mblock_any l A c _ HL.out HR.out HB.out hc hlen).mono ?_)
  rintro e w1 ⟨rfl, hx1⟩
  have hg := hx1.size
  have H0 := (Sep.refl No w).ext hx1
  clear hx1
  go_wp2_with (first
    | (have zz := tok; clear zz tok; refine wpList_alS H0 rfl 121 rfl (Z8 64) (by kernel_rfl) ?_; intro w2 hz2 H1; clear H0)
    | (have zz := tok2; clear zz tok2; refine wpList_stS [] H1 rfl 121 (.tmp 5) (.tmp 8) rfl rfl (cs := byt (keyB l)) rfl (by rw [HKL.out]; kernel_rfl) (by rw [HKL.out]; rfl) (byt_one _) ?_; intro w3 H3; dsimp only [List.nil_append] at H3; have K3 := hide H3; clear H1 H3))
  go_loopw [9] (fun i wr => ∃ k : Nat, i = .int .i64 k ∧ k ≤ 64 ∧ Sep No w wr [As.blk w1.heap.size 121 (byt (xorTo x k (keyB l)))]) (fun i _ => 64 - (intOf i).toNat)
  case atStart => exact ⟨0, rfl, by omega, by simpa [xorTo, xorB] using K3.out⟩
  case round =>
    obtain ⟨k, rfl, hk, H⟩ := hrel
    clear K3
    by_cases hlt : k < 64
    · have hkk : k < (keyB l).length := by rw [HKn.out]; exact hlt
      have hcell : wr.cell? ⟨w1.heap.size, k, none⟩ = some (.int .u8 (keyB l)[k]) := by
        rw [(H.blk (g := w1.heap.size) (e := 121) (cs := byt (xorTo x k (keyB l))) (List.Mem.head _)).cell k, byt, List.getElem?_map, xorTo_get hkk]; rfl
      have hfr := (H.blk (g := w1.heap.size) (e := 121) (cs := byt (xorTo x k (keyB l))) (List.Mem.head _)).free
      have H2 := Sep.cell (L1 := []) H k (.int .u8 (bits .xor .u8 (keyB l)[k] x))
      dsimp only [List.nil_append] at H2
      rw [byt_set, xorTo_set hkk] at H2
      have K2 := hide H2
      clear H H2
      obtain ⟨y, HY⟩ : ∃ y, Hid ((keyB l)[k] = y) := ⟨_, hide rfl⟩
      rw [HY.out] at hcell K2
      go_wp2_with fail
      go_roundw
      case rel => exact ⟨k + 1, by go_num, by omega, K2.out⟩
      case measure => simp [intOf]; omega
    · obtain rfl : k = 64 := by omega
      have hx : xorTo x 64 (keyB l) = xorB x (keyB l) := by
        unfold xorTo; rw [List.take_of_length_le (by rw [HKn.out]; exact Nat.le_refl _), List.drop_eq_nil_of_le (by rw [HKn.out]; exact Nat.le_refl _), List.append_nil]
      rw [hx] at H
      have HF : Hid (Rd wr (some ⟨w1.heap.size, 0, none⟩) (byt (xorB x (keyB l))) ∧ Ext w wr) := hide ⟨(H.blk (g := w1.heap.size) (e := 121) (List.Mem.head _)).rd, H.toExt⟩
      have HXL : Hid ((xorB x (keyB l)).length = 64) := hide (by rw [xorB_len, HKn.out])
      clear hx H
      go_wp2_with fail
      go_ret
      exact ⟨w1.heap.size, by rw [HXL.out]; rfl, hg, HF.out.1, HF.out.2⟩
end Go.Proofs.YtamlngdjbmndlaaDoor
