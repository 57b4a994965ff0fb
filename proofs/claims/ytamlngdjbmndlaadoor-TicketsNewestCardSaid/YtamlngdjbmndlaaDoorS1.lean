/- The walks of the turns of words, of sha and of the reference: each returns what the plain function says. -/
import Derived.Test.YtamlngdjbmndlaaDoorRows
import Derived.Test.YtamlngdjbmndlaaDoorS0
import Derived.Test.YtamlngdjbmndlaaDoorGa
import Derived.Outline
namespace Go.Proofs.YtamlngdjbmndlaaDoor
open Go.RowKit Go.Gr
set_option linter.unusedVariables false
theorem rot_any (x n : Int) (w : World) (h0 : 0 ≤ x) (h1 : x < 4294967296) (hn : 1 ≤ n) (hn2 : n ≤ 31) :
    Calls Tryd.prog 99 #[.int .u32 x, .int .u64 n] w fun e w' => e = .returned (.int .u32 (rotS x n)) ∧ w = w' := by
  go_enter Tryd.func99, Tryd.ntmps99
  go_wp2
  go_ret
  exact ⟨rfl, rfl⟩
theorem shr_any (x n : Int) (w : World) (h0 : 0 ≤ x) (h1 : x < 4294967296) (hn : 1 ≤ n) (hn2 : n ≤ 31) :
    Calls Tryd.prog 98 #[.int .u32 x, .int .u64 n] w fun e w' => e = .returned (.int .u32 (shrS x n)) ∧ w = w' := by
  go_enter Tryd.func98, Tryd.ntmps98
  go_wp2
  go_ret
  exact ⟨rfl, rfl⟩
theorem rrot_any (x n : Int) (w : World) (h0 : 0 ≤ x) (h1 : x < 4294967296) (hn : 1 ≤ n) (hn2 : n ≤ 31) :
    Calls Tryd.prog 103 #[.int .u32 x, .int .u64 n] w fun e w' => e = .returned (.int .u32 (rotS x n)) ∧ w = w' := by
  go_enter Tryd.func103, Tryd.ntmps103
  go_wp2
  go_ret
  exact ⟨rfl, rfl⟩
theorem mix_shr (x a b c : Int) (w : World) (h0 : 0 ≤ x) (h1 : x < 4294967296) (ha : 1 ≤ a) (ha2 : a ≤ 31) (hb : 1 ≤ b) (hb2 : b ≤ 31) (hc : 1 ≤ c) (hc2 : c ≤ 31) :
    Calls Tryd.prog 97 #[.int .u32 x, .int .u64 a, .int .u64 b, .int .u64 c, .func (.func 98) #[] #[]] w fun e w' => e = .returned (.int .u32 (xr (xr (rotS x a) (rotS x b)) (shrS x c))) ∧ w = w' := by
  go_enter Tryd.func97, Tryd.ntmps97
  go_wp2_with fail
  (with_reducible refine (rot_any x a _ h0 h1 ha ha2).mono ?_)
  rintro e w1 ⟨rfl, rfl⟩
  go_wp2_with fail
  (with_reducible refine (rot_any x b _ h0 h1 hb hb2).mono ?_)
  rintro e w1 ⟨rfl, rfl⟩
  go_wp2_with fail
  (with_reducible refine (shr_any x c _ h0 h1 hc hc2).mono ?_)
  rintro e w1 ⟨rfl, rfl⟩
  go_wp2_with fail
  go_ret
  exact ⟨rfl, rfl⟩
theorem mix_rot (x a b c : Int) (w : World) (h0 : 0 ≤ x) (h1 : x < 4294967296) (ha : 1 ≤ a) (ha2 : a ≤ 31) (hb : 1 ≤ b) (hb2 : b ≤ 31) (hc : 1 ≤ c) (hc2 : c ≤ 31) :
    Calls Tryd.prog 97 #[.int .u32 x, .int .u64 a, .int .u64 b, .int .u64 c, .func (.func 99) #[] #[]] w fun e w' => e = .returned (.int .u32 (xr (xr (rotS x a) (rotS x b)) (rotS x c))) ∧ w = w' := by
  go_enter Tryd.func97, Tryd.ntmps97
  go_wp2_with fail
  (with_reducible refine (rot_any x a _ h0 h1 ha ha2).mono ?_)
  rintro e w1 ⟨rfl, rfl⟩
  go_wp2_with fail
  (with_reducible refine (rot_any x b _ h0 h1 hb hb2).mono ?_)
  rintro e w1 ⟨rfl, rfl⟩
  go_wp2_with fail
  (with_reducible refine (rot_any x c _ h0 h1 hc hc2).mono ?_)
  rintro e w1 ⟨rfl, rfl⟩
  go_wp2_with fail
  go_ret
  exact ⟨rfl, rfl⟩
end Go.Proofs.YtamlngdjbmndlaaDoor
