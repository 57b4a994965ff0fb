/- SHA-256 in plain Lean, as the walks spell it: words, schedule, rounds, blocks. No program in sight. -/
import Derived.Test.YtamlngdjbmndlaaDoorGa
namespace Go.Proofs.YtamlngdjbmndlaaDoor
open Go.RowKit Go.Gr
set_option linter.unusedVariables false
def rotS (x n : Int) : Int := bits .or .u32 (x / 2 ^ n.toNat) (x * 2 ^ (32 - n).toNat % 4294967296)
def shrS (x n : Int) : Int := x / 2 ^ n.toNat
def xr (a b : Int) : Int := bits .xor .u32 a b
def an (a b : Int) : Int := bits .and .u32 a b
def ad (a b : Int) : Int := (a + b) % 4294967296
def s0S (x : Int) : Int := xr (xr (rotS x 7) (rotS x 18)) (shrS x 3)
def s1S (x : Int) : Int := xr (xr (rotS x 17) (rotS x 19)) (shrS x 10)
def S0S (x : Int) : Int := xr (xr (rotS x 2) (rotS x 13)) (rotS x 22)
def S1S (x : Int) : Int := xr (xr (rotS x 6) (rotS x 11)) (rotS x 25)
/-- the next word of the schedule -/
def nextW (ws : List Int) : Int := ad (ad (ad (s1S (ws.getD (ws.length - 2) 0)) (ws.getD (ws.length - 7) 0)) (s0S (ws.getD (ws.length - 15) 0))) (ws.getD (ws.length - 16) 0)
def wordAt (b : List Int) (t : Nat) : Int := bits .or .u32 (bits .or .u32 (bits .or .u32 (b.getD (4 * t) 0 * 16777216) (b.getD (4 * t + 1) 0 * 65536)) (b.getD (4 * t + 2) 0 * 256)) (b.getD (4 * t + 3) 0)
/-- the first words of a block -/
def wl (b : List Int) : Nat → List Int
  | 0 => []
  | k + 1 => wl b k ++ [wordAt b k]
/-- the schedule, so many words behind the first sixteen -/
def sched (b : List Int) : Nat → List Int
  | 0 => wl b 16
  | k + 1 => sched b k ++ [nextW (sched b k)]
def kT : List Int := [1116352408, 1899447441, 3049323471, 3921009573, 961987163, 1508970993, 2453635748, 2870763221, 3624381080, 310598401, 607225278, 1426881987, 1925078388, 2162078206, 2614888103, 3248222580, 3835390401, 4022224774, 264347078, 604807628, 770255983, 1249150122, 1555081692, 1996064986, 2554220882, 2821834349, 2952996808, 3210313671, 3336571891, 3584528711, 113926993, 338241895, 666307205, 773529912, 1294757372, 1396182291, 1695183700, 1986661051, 2177026350, 2456956037, 2730485921, 2820302411, 3259730800, 3345764771, 3516065817, 3600352804, 4094571909, 275423344, 430227734, 506948616, 659060556, 883997877, 958139571, 1322822218, 1537002063, 1747873779, 1955562222, 2024104815, 2227730452, 2361852424, 2428436474, 2756734187, 3204031479, 3329325298]
def hT : List Int := [1779033703, 3144134277, 1013904242, 2773480762, 1359893119, 2600822924, 528734635, 1541459225]
def nt (e : Int) : Int := bits .xor .u32 4294967295 e
def uS (k w : Int) (e f g h : Int) : Int := ad (ad (ad (ad h (S1S e)) (xr (an e f) (an (nt e) g))) k) w
def vS (a b c : Int) : Int := ad (S0S a) (xr (xr (an a b) (an a c)) (an b c))
/-- one round -/
def rnd (k w : Int) : List Int → List Int
  | [a, b, c, d, e, f, g, h] => [ad (uS k w e f g h) (vS a b c), a, b, c, ad d (uS k w e f g h), e, f, g]
  | _ => []
/-- the first so many rounds -/
def rnds (ks ws st : List Int) : Nat → List Int
  | 0 => st
  | t + 1 => rnd (ks.getD t 0) (ws.getD t 0) (rnds ks ws st t)
def sumS (a b : List Int) : List Int := List.zipWith ad a b
def blockS (st b : List Int) : List Int := sumS (rnds kT (sched b 48) st 64) st
def isW (l : List Int) : Prop := ∀ x ∈ l, 0 ≤ x ∧ x < 4294967296
def isB (l : List Int) : Prop := ∀ x ∈ l, 0 ≤ x ∧ x < 256
def u32v (l : List Int) : List Value := l.map (Value.int .u32)
@[simp] theorem u32v_length (l : List Int) : (u32v l).length = l.length := by simp [u32v]
theorem u32v_one (l : List Int) : ∀ u ∈ u32v l, u.oneCell' = true := fun u hu => by
  obtain ⟨x, _, rfl⟩ := List.mem_map.1 hu; rfl
theorem u32v_append (a b : List Int) : u32v (a ++ b) = u32v a ++ u32v b := by simp [u32v]
theorem u32v_at (l : List Int) (k : Nat) (h : k < l.length) : (u32v l)[k]? = some (.int .u32 (l.getD k 0)) := by
  simp [u32v, h]
theorem byt_at (l : List Int) (k : Nat) (h : k < l.length) : (byt l)[k]? = some (.int .u8 (l.getD k 0)) := by
  simp [byt, h]
theorem isB_at {l : List Int} (h : isB l) (k : Nat) : 0 ≤ l.getD k 0 ∧ l.getD k 0 < 256 := by
  rcases Nat.lt_or_ge k l.length with h1 | h1
  · rw [show l.getD k 0 = l[k] by simp [h1]]; exact h _ (List.getElem_mem _)
  · rw [show l.getD k 0 = 0 by simp [List.getElem?_eq_none h1]]; decide
theorem isW_at {l : List Int} (h : isW l) (k : Nat) : 0 ≤ l.getD k 0 ∧ l.getD k 0 < 4294967296 := by
  rcases Nat.lt_or_ge k l.length with h1 | h1
  · rw [show l.getD k 0 = l[k] by simp [h1]]; exact h _ (List.getElem_mem _)
  · rw [show l.getD k 0 = 0 by simp [List.getElem?_eq_none h1]]; decide
theorem set_next (a : List Value) (n k : Nat) (z x : Value) (h : a.length = k) (hk : k < n) : (a ++ List.replicate (n - k) z).set k x = (a ++ [x]) ++ List.replicate (n - (k + 1)) z := by
  subst h
  rw [List.set_append_right _ _ (Nat.le_refl _), Nat.sub_self, show n - a.length = (n - (a.length + 1)) + 1 by omega, List.replicate_succ, List.set_cons_zero]
  simp
theorem wl_length (b : List Int) : ∀ k, (wl b k).length = k
  | 0 => rfl
  | k + 1 => by simp [wl, wl_length b k]
theorem sched_length (b : List Int) : ∀ k, (sched b k).length = 16 + k
  | 0 => wl_length b 16
  | k + 1 => by simp [sched, sched_length b k]; omega
theorem bits32_range (op : BinOp) (a b : Int) (h : op = .or ∨ op = .xor ∨ op = .and) : 0 ≤ bits op .u32 a b ∧ bits op .u32 a b < 4294967296 := by
  have hw : ∀ n : Int, 0 ≤ IntKind.u32.wrap n ∧ IntKind.u32.wrap n < 4294967296 := fun n => by
    rw [show IntKind.u32.wrap n = n % 4294967296 by simp [IntKind.wrap, IntKind.signed, IntKind.bits]]; omega
  rcases h with rfl | rfl | rfl <;> exact hw _
theorem xr_range (a b : Int) : 0 ≤ xr a b ∧ xr a b < 4294967296 := bits32_range _ _ _ (.inr (.inl rfl))
theorem an_range (a b : Int) : 0 ≤ an a b ∧ an a b < 4294967296 := bits32_range _ _ _ (.inr (.inr rfl))
theorem ad_range (a b : Int) : 0 ≤ ad a b ∧ ad a b < 4294967296 := by unfold ad; omega
theorem rot_range (x n : Int) : 0 ≤ rotS x n ∧ rotS x n < 4294967296 := bits32_range _ _ _ (.inl rfl)
theorem word_range (b : List Int) (t : Nat) : 0 ≤ wordAt b t ∧ wordAt b t < 4294967296 := bits32_range _ _ _ (.inl rfl)
theorem isW_snoc {l : List Int} {x : Int} (h : isW l) (hx : 0 ≤ x ∧ x < 4294967296) : isW (l ++ [x]) := fun y hy => by
  rcases List.mem_append.1 hy with h1 | h1
  · exact h y h1
  · rw [List.mem_singleton.1 h1]; exact hx
theorem wl_isW (b : List Int) : ∀ k, isW (wl b k)
  | 0 => fun x hx => by cases hx
  | k + 1 => isW_snoc (wl_isW b k) (word_range b k)
theorem sched_isW (b : List Int) : ∀ k, isW (sched b k)
  | 0 => wl_isW b 16
  | k + 1 => isW_snoc (sched_isW b k) (ad_range _ _)
theorem eight (l : List Int) (h : l.length = 8) : ∃ a b c d e f g i, l = [a, b, c, d, e, f, g, i] := by
  match l, h with
  | [a, b, c, d, e, f, g, i], _ => exact ⟨a, b, c, d, e, f, g, i, rfl⟩
theorem rnd_length (k w : Int) (l : List Int) (h : l.length = 8) : (rnd k w l).length = 8 := by
  obtain ⟨a, b, c, d, e, f, g, i, rfl⟩ := eight l h; rfl
theorem rnd_isW {k w : Int} {l : List Int} (h : l.length = 8) (hw : isW l) : isW (rnd k w l) := by
  obtain ⟨a, b, c, d, e, f, g, i, rfl⟩ := eight l h
  intro x hx
  simp only [rnd, List.mem_cons, List.not_mem_nil, or_false] at hx
  rcases hx with rfl | rfl | rfl | rfl | rfl | rfl | rfl | rfl
  · exact ad_range _ _
  · exact hw _ (by simp)
  · exact hw _ (by simp)
  · exact hw _ (by simp)
  · exact ad_range _ _
  · exact hw _ (by simp)
  · exact hw _ (by simp)
  · exact hw _ (by simp)
theorem rnds_ok (ks ws st : List Int) (h : st.length = 8) (hw : isW st) : ∀ t, (rnds ks ws st t).length = 8 ∧ isW (rnds ks ws st t)
  | 0 => ⟨h, hw⟩
  | t + 1 => by
    have := rnds_ok ks ws st h hw t
    exact ⟨rnd_length _ _ _ this.1, rnd_isW this.1 this.2⟩
theorem sumS_ok (a b : List Int) (ha : a.length = 8) (hb : b.length = 8) : (sumS a b).length = 8 ∧ isW (sumS a b) := by
  obtain ⟨a, b', c, d, e, f, g, i, rfl⟩ := eight a ha
  obtain ⟨a', b'', c', d', e', f', g', i', rfl⟩ := eight b hb
  refine ⟨rfl, fun x hx => ?_⟩
  simp only [sumS, List.zipWith, List.mem_cons, List.not_mem_nil, or_false] at hx
  rcases hx with rfl | rfl | rfl | rfl | rfl | rfl | rfl | rfl <;> exact ad_range _ _
theorem blockS_ok (st b : List Int) (h : st.length = 8) (hw : isW st) : (blockS st b).length = 8 ∧ isW (blockS st b) :=
  sumS_ok _ _ (rnds_ok _ _ st h hw 64).1 h
end Go.Proofs.YtamlngdjbmndlaaDoor
