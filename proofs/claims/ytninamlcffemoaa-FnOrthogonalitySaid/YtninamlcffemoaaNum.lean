/- Contracts of functions over numbers alone: InRange, CeilDiv, Mod, of the program and of the reference. -/
import Derived.Test.YtninamlcffemoaaProg
import Derived.Test.YtninamlcffemoaaBase
import Derived.Test.YtninamlcffemoaaPlain
import Derived.WalkSpells
import Derived.WalkLawsBesides
namespace Go.Proofs.Ytninamlcffemoaa
open Go.RowKit
set_option linter.unusedVariables false
set_option maxRecDepth 20000

theorem implInRange_ok (n lo hi : Int) (w : World) :
    Calls Try.prog 119 #[.int .i64 n, .int .i64 lo, .int .i64 hi] w fun e w' => e = .returned (.bool (inR n lo hi)) ∧ w = w' := by
  by_cases h1 : lo ≤ n <;> by_cases h2 : n ≤ hi
  all_goals
    go_enter Try.func119, Try.ntmps119
    go_wp2
    go_ret
    simp [inR, h1, h2]

theorem specInRange_ok (n lo hi : Int) (w : World) :
    Calls Try.prog 120 #[.int .i64 n, .int .i64 lo, .int .i64 hi] w fun e w' => e = .returned (.bool (inR n lo hi)) ∧ w = w' := by
  by_cases h1 : lo ≤ n <;> by_cases h2 : n ≤ hi
  all_goals
    go_enter Try.func120, Try.ntmps120
    go_wp2
    go_ret
    simp [inR, h1, h2]

def ceilDiv (a b : Int) : Int := if inR a 0 1000000000000 && inR b 1 1000000000000 then (a + b - 1) / b else 0

/-- Go's Mod, for a modulus in range. -/
def modI (p q : Int) : Int := (p.tmod q + q) % q
theorem modI_range (p q : Int) (h : 1 ≤ q) : 0 ≤ modI p q ∧ modI p q < q := ⟨Int.emod_nonneg _ (by omega), Int.emod_lt_of_pos _ (by omega)⟩
theorem tmod_abs (p q : Int) (h : 1 ≤ q) : -q < p.tmod q ∧ p.tmod q < q := by
  constructor
  · by_cases hp : 0 ≤ p
    · have := Int.tmod_nonneg (a := p) q hp; omega
    · have h1 := Int.neg_tmod p q
      have h2 := Int.tmod_lt_of_pos (-p) (b := q) (by omega)
      omega
  · exact Int.tmod_lt_of_pos p (by omega)

theorem implMod_ok (p q : Int) (w : World) (hq : 1 ≤ q) (hq2 : q ≤ 1000000000000) :
    Calls Try.prog 174 #[.int .i64 p, .int .i64 q] w fun e w' => e = .returned (.int .i64 (modI p q)) ∧ w = w' := by
  have h1 : inR q 1 1000000000000 = true := inR_true.2 ⟨hq, hq2⟩
  obtain ⟨hm1, hm2⟩ := tmod_abs p q hq
  go_enter Try.func174, Try.ntmps174
  go_wp2_with (go_at_call 119; refine (implInRange_ok _ _ _ _).mono ?_; rintro e w' ⟨rfl, rfl⟩)
  go_ret
  simp [modI]

theorem specMod_ok (p q : Int) (w : World) (hq : 1 ≤ q) (hq2 : q ≤ 1000000000000) :
    Calls Try.prog 183 #[.int .i64 p, .int .i64 q] w fun e w' => e = .returned (.int .i64 (modI p q)) ∧ w = w' := by
  have h1 : inR q 1 1000000000000 = true := inR_true.2 ⟨hq, hq2⟩
  obtain ⟨hm1, hm2⟩ := tmod_abs p q hq
  go_enter Try.func183, Try.ntmps183
  go_wp2_with (go_at_call 120; refine (specInRange_ok _ _ _ _).mono ?_; rintro e w' ⟨rfl, rfl⟩)
  go_ret
  simp [modI]

end Go.Proofs.Ytninamlcffemoaa
