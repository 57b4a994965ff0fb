/- Venues: Check and Places, by the reference. -/
import Derived.Test.YtkhinagagncblaaDoorB1
namespace Go.Proofs.YtkhinagagncblaaDoor
open Go.RowKit Go.Gr Go.Ad
set_option linter.unusedVariables false
set_option linter.unusedSimpArgs false
attribute [local go_sem] rdOp rdAt rdUpon Cls forall_fr
def plC (x : Pl) : List Value := [.int .i64 (x.sec : Nat), .int .i64 (x.row : Nat), .int .i64 (x.seat : Nat)]
def plV (l : List Pl) : List (List Value) := l.map plC
theorem plV_len (l : List Pl) : (plV l).length = l.length := by simp [plV]
theorem plV_append (l m : List Pl) : plV (l ++ m) = plV l ++ plV m := by simp [plV]
theorem plV_at {l : List Pl} {i : Nat} {r : Pl} (h : l[i]? = some r) : (plV l)[i]? = some (plC r) := by simp [plV, h]
theorem infoP : (Tryd.prog.info? 49).map (fun i => (i.zero, i.size, i.bytes)) = some (some (.agg #[.int .i64 0, .int .i64 0, .int .i64 0]), 3, 24) := by kernel_rfl
theorem plL_append (l m : List RowI) : plL (l ++ m) = plL l ++ plL m := by simp [plL]
theorem range_snoc (n : Nat) : List.range (n + 1) = List.range n ++ [n] := List.range_succ
theorem p3_one (a b c : Int) : ∀ v ∈ ([.int .i64 a, .int .i64 b, .int .i64 c] : List Value), v.oneCell' = true := by
  intro v hv
  simp only [List.mem_cons, List.not_mem_nil, or_false] at hv
  rcases hv with rfl | rfl | rfl <;> rfl
def sc0 : Sc := ⟨⟨#[]⟩, [], 0⟩
/-- the places of a part: sections, rows of the next, seats of the next -/
def plP (v : Vn) (i k n : Nat) (s : Sc) : List Pl := plL (rl 0 0 (v.secs.take i)) ++ plL (rlSec i 0 (fst0 v.secs i) (s.rowsN.take k)) ++ (List.range n).map fun q => ⟨i, k, q⟩
theorem plL_sec_app (i : Nat) : ∀ (l1 l2 : List Nat) (k a : Nat), rlSec i k a (l1 ++ l2) = rlSec i k a l1 ++ rlSec i (k + l1.length) (a + l1.sum) l2
  | [], l2, k, a => by simp [rlSec]
  | n :: l1, l2, k, a => by
    rw [List.cons_append, rlSec, rlSec, plL_sec_app i l1 l2, List.length_cons, List.sum_cons, show k + 1 + l1.length = k + (l1.length + 1) by omega, Nat.add_assoc]; rfl
theorem plP_seat (v : Vn) (i k n : Nat) (s : Sc) : plP v i k (n + 1) s = plP v i k n s ++ [⟨i, k, n⟩] := by
  unfold plP; rw [range_snoc, List.map_append, List.map_singleton, List.append_assoc _ (List.map _ _)]
theorem plP_row {v : Vn} {i k n : Nat} {s : Sc} (h : s.rowsN[k]? = some n) : plP v i k n s = plP v i (k + 1) 0 s := by
  have hk : k < s.rowsN.length := (List.getElem?_eq_some_iff.1 h).1
  unfold plP
  rw [take_next1 h, plL_sec_app, plL_append, List.range_zero, List.map_nil, List.append_nil, List.length_take, Nat.min_eq_left (by omega), Nat.zero_add, List.append_assoc]
  congr 1
  simp [rlSec, plL, plR]
theorem plP_sec {v : Vn} {i : Nat} {s s' : Sc} (h : v.secs[i]? = some s) : plP v i s.rowsN.length 0 s = plP v (i + 1) 0 0 s' := by
  unfold plP
  rw [List.range_zero, List.map_nil, List.append_nil, List.map_nil, List.append_nil, List.take_of_length_le (Nat.le_refl _), List.take_zero, rl_take h, plL_append]
  simp [rlSec, plL]
theorem plP_start (v : Vn) (s : Sc) : plP v 0 0 0 s = [] := by simp [plP, rl, rlSec, plL]
theorem plP_end (v : Vn) (s : Sc) : plP v v.secs.length 0 0 s = places v := by
  unfold plP places; rw [List.take_of_length_le (Nat.le_refl _)]; simp [rlSec, plL]
theorem plP_len_le {v : Vn} (h : ∀ s ∈ v.secs, ScOk s) (hl : v.secs.length ≤ 8) {i k n : Nat} {s : Sc} (hs : v.secs[i]? = some s) (hn : n ≤ 64) : (plP v i k n s).length ≤ 9300 := by
  unfold plP
  rw [List.length_append, List.length_append, plL_len, plL_len, sumR_rl, sumR_sec, List.length_map, List.length_range]
  have h1 := sumS_le (l := v.secs.take i) fun x hx => h x (List.mem_of_mem_take hx)
  have h2 : (v.secs.take i).length ≤ 8 := by rw [List.length_take]; omega
  have h3 := Nat.mul_le_mul_right 1024 h2
  have h4 := sum_take_le s.rowsN k
  have h5 := sc_sum (h s (List.mem_of_getElem? hs))
  unfold Sc.sum at h5
  omega
set_option maxRecDepth 100000 in
set_option maxHeartbeats 8000000 in
theorem ref_places (v : Vn) (A : Option Addr) (c : Nat) (w : World) (h : Secs w A v.secs) (hc : v.secs.length ≤ c) (hl : v.secs.length ≤ 8) (hs : ∀ s ∈ v.secs, ScOk s) :
    Calls Tryd.prog 44 #[.agg #[.int .i64 v.sh, .int .i64 v.ttl, .int .i64 v.ses, .slice A v.secs.length c]] w fun e w' => ∃ v', e = .returned v' ∧ Sep No w w' [As.ownM 49 3 v' (plV (places v))] := by
  obtain ⟨i0, ki, kz0, kz1, kz2⟩ := info_parts infoP
  have HS := hide (fun (y : World) (k : Ext w y) => h.ext k)
  have HC := hide hc
  have H8 := hide hl
  have HO := hide hs
  clear h hc hl hs
  have K0 := (Sep.refl No w).add 24 [.int .i64 v.sh, .int .i64 v.ttl, .int .i64 v.ses, .slice A v.secs.length c]
  go_enter Tryd.func44, Tryd.ntmps44
  go_upto_region 1 with fail
  generalize w.alloc _ = w1 at K0 ⊢
  generalize w.heap.size = g1 at K0 ⊢
  have K1 := hide (K0.nilM 49 3)
  clear K0
  go_wp2_with fail
  go_loopw [3, 4] (fun v3 v4 wr => ∃ (i : Nat) (vo : Value), v4 = .int .i64 i ∧ v3 = vo ∧ i ≤ v.secs.length ∧ Hid (Sep No w wr [As.ownM 49 3 vo (plV (plP v i 0 0 sc0)), As.blk g1 24 [.int .i64 v.sh, .int .i64 v.ttl, .int .i64 v.ses, .slice A v.secs.length c]])) (fun _ v4 _ => v.secs.length - (intOf v4).toNat)
  case atStart => exact ⟨0, _, rfl, rfl, by omega, by rw [plP_start]; exact K1⟩
  case round =>
    obtain ⟨i, vo, rfl, rfl, hi, K2⟩ := hrel
    clear K1
    have hi8 : i ≤ 8 := by have := H8.out; omega
    obtain ⟨c0, c1, c2, c3, cz⟩ := blk4 (K2.out.blk (g := g1) (e := 24) (List.Mem.tail _ (List.Mem.head _)))
    by_cases hlt : i < v.secs.length
    · have hli : (i : Int) < (v.secs.length : Int) := by omega
      obtain ⟨s, hs⟩ : ∃ s, v.secs[i]? = some s := ⟨_, List.getElem?_eq_getElem hlt⟩
      obtain ⟨b, off, R, d, hA, h5w, hRw, hd⟩ := HS.out _ (Ext.refl w) i _ hs
      have H5 := hide (fun (y : World) (k : Ext w y) => h5w.ext k)
      have HR := hide (fun (y : World) (k : Ext w y) => hRw.ext k)
      have hic : (i : Int) < (c : Int) := by have := HC.out; omega
      have HSO := hide (HO.out s (List.mem_of_getElem? hs))
      have HSI := hide hs
      have HLT := hide hlt
      clear h5w hRw hs hlt
      have K3 : Hid (Sep No w wr [As.ownM 49 3 u3 (plV (plP v i 0 0 s)), As.blk g1 24 [.int .i64 v.sh, .int .i64 v.ttl, .int .i64 v.ses, .slice A v.secs.length c]]) := hide (by
        have := K2.out
        rw [show plP v i 0 0 sc0 = plP v i 0 0 s by simp [plP]] at this; exact this)
      clear K2
      subst hA
      go_wp2_with fail
      clear c0 c1 c2 c3 cz
      go_loopw [3, 5] (fun v3 v5 wr => ∃ (k : Nat) (vo : Value), v5 = .int .i64 k ∧ v3 = vo ∧ k ≤ s.rows.length ∧ Hid (Sep No w wr [As.ownM 49 3 vo (plV (plP v i k 0 s)), As.blk g1 24 [.int .i64 v.sh, .int .i64 v.ttl, .int .i64 v.ses, .slice (some ⟨b, off, none⟩) v.secs.length c]])) (fun _ v5 _ => s.rows.length - (intOf v5).toNat)
      case atStart => exact ⟨0, _, rfl, rfl, by omega, K3⟩
      case round =>
        obtain ⟨k, vo, rfl, rfl, hk, K4⟩ := hrel
        clear K3
        have hkb : k ≤ 16 := by have := HSO.out.few; omega
        obtain ⟨c0, c1, c2, c3, cz⟩ := blk4 (K4.out.blk (g := g1) (e := 24) (List.Mem.tail _ (List.Mem.head _)))
        obtain ⟨d0, d1, d2⟩ := at5_3 (H5.out _ K4.out.toExt)
        by_cases hkl : k < s.rows.length
        · have hkli : (k : Int) < (s.rows.length : Int) := by omega
          obtain ⟨x, hx⟩ : ∃ x, s.rows[k]? = some x := ⟨_, List.getElem?_eq_getElem hkl⟩
          have hx' : s.rows[k] = x := by rw [List.getElem?_eq_getElem hkl] at hx; exact Option.some.inj hx
          have hxr := HSO.out.row x (List.mem_of_getElem? hx)
          obtain ⟨n, rfl⟩ : ∃ n : Nat, x = n := ⟨x.toNat, by omega⟩
          have hrn := rowsN_get hx
          rw [Int.toNat_natCast] at hrn
          have HRN := hide hrn
          have hn64 : n ≤ 64 := by omega
          have hdc : (k : Int) < (d : Int) := by omega
          have HKL := hide hkl
          have HCL : Hid (∀ y, Ext w y → ∃ ad, R = some ad ∧ y.cell? (ad.add k) = some (.int .i64 (n : Nat))) := hide (fun y e => by
            obtain ⟨ad, h1, h2⟩ := i64s_at (HR.out y e) HKL.out
            rw [hx'] at h2
            exact ⟨ad, h1, h2⟩)
          obtain ⟨ad, hRA, _⟩ := HCL.out w (Ext.refl w)
          subst hRA
          clear hx hx' hxr hrn hkl
          go_wp2_with fail
          clear c0 c1 c2 c3 cz d0 d1 d2
          go_loopw [3, 6] (fun v3 v6 wr => ∃ (q : Nat) (vo : Value), v6 = .int .i64 q ∧ v3 = vo ∧ q ≤ n ∧ Hid (Sep No w wr [As.ownM 49 3 vo (plV (plP v i k q s)), As.blk g1 24 [.int .i64 v.sh, .int .i64 v.ttl, .int .i64 v.ses, .slice (some ⟨b, off, none⟩) v.secs.length c]])) (fun _ v6 _ => n - (intOf v6).toNat)
          case atStart => exact ⟨0, _, rfl, rfl, by omega, K4⟩
          case round =>
            obtain ⟨q, vo, rfl, rfl, hq, K5⟩ := hrel
            clear K4
            obtain ⟨c0, c1, c2, c3, cz⟩ := blk4 (K5.out.blk (g := g1) (e := 24) (List.Mem.tail _ (List.Mem.head _)))
            obtain ⟨d0, d1, d2⟩ := at5_3 (H5.out _ K5.out.toExt)
            obtain ⟨ad', ha', cl⟩ := HCL.out _ K5.out.toExt
            cases ha'
            by_cases hqn : q < n
            · have hqi : (q : Int) < (n : Int) := by omega
              have HMANY : Hid ((plV (plP v i k q s)).length < 100000) := hide (by
                rw [plV_len]
                have := plP_len_le (k := k) (n := q) HO.out H8.out HSI.out (by omega)
                omega)
              have HQ := hide hqn
              have HPS := hide (plP_seat v i k q s)
              have tok1 : True := trivial
              clear hqn
              go_wp2_with (have zz := tok1; clear zz tok1; refine wpList_pushM [] K5.out rfl (.tmp 38) (.tmp 43) 74 rfl i0 _ 24 Tryd.underlying74 ki kz0 kz1 kz2 rfl (by decide) rfl rfl (r := [.int .i64 (i : Nat), .int .i64 (k : Nat), .int .i64 (q : Nat)]) rfl (p3_one _ _ _) HMANY.out (by decide) ?_; intro v7 w7 K7; dsimp only [List.nil_append, List.cons_append] at K7)
              clear c0 c1 c2 c3 cz d0 d1 d2 cl
              go_roundw
              case rel =>
                refine ⟨q + 1, _, by go_num, rfl, HQ.out, hide ?_⟩
                rw [HPS.out, plV_append]
                exact K7
              case measure => have := HQ.out; simp [intOf]; omega
            · have hqi : ¬ (q : Int) < (n : Int) := by omega
              obtain rfl : q = n := by omega
              have HPR := hide (plP_row (v := v) (i := i) HRN.out)
              clear hqn
              go_wp2_with fail
              clear c0 c1 c2 c3 cz d0 d1 d2 cl
              go_roundw
              case rel =>
                refine ⟨k + 1, _, by go_num, rfl, HKL.out, hide ?_⟩
                rw [← HPR.out]
                exact K5.out
              case measure => have := HKL.out; simp [intOf]; omega
        · have hkli : ¬ (k : Int) < (s.rows.length : Int) := by omega
          obtain rfl : k = s.rows.length := by omega
          have HPC := hide (plP_sec (s' := sc0) HSI.out)
          have hrl : s.rowsN.length = s.rows.length := by unfold Sc.rowsN; rw [List.length_map]
          rw [hrl] at HPC
          clear hrl hkl
          go_wp2_with fail
          clear c0 c1 c2 c3 cz d0 d1 d2
          go_roundw
          case rel =>
            refine ⟨i + 1, _, by go_num, rfl, HLT.out, hide ?_⟩
            rw [← HPC.out]
            exact K4.out
          case measure => have := HLT.out; simp [intOf]; omega
    · have hli : ¬ (i : Int) < (v.secs.length : Int) := by omega
      obtain rfl : i = v.secs.length := by omega
      go_wp2_with fail
      go_ret
      refine ⟨_, rfl, ?_⟩
      have := K2.out.sub (List.Sublist.cons_cons _ (List.nil_sublist _))
      rwa [plP_end] at this
end Go.Proofs.YtkhinagagncblaaDoor
