/- Contracts of functions over numbers alone: InRange, CeilDiv, Mod, of the program and of the reference. -/
import Derived.Test.YtkegknophppdgaaProg
import Derived.Test.YtkegknophppdgaaBase
import Derived.Test.YtkegknophppdgaaPlain
import Derived.WalkSpells
import Derived.WalkLawsBesides
namespace Go.Proofs.Ytkegknophppdgaa
open Go.RowKit
set_option linter.unusedVariables false
set_option maxRecDepth 20000

theorem implInRange_ok (n lo hi : Int) (w : World) :
    Calls Try.prog 96 #[.int .i64 n, .int .i64 lo, .int .i64 hi] w fun e w' => e = .returned (.bool (inR n lo hi)) ∧ w = w' := by
  by_cases h1 : lo ≤ n <;> by_cases h2 : n ≤ hi
  all_goals
    go_enter Try.func96, Try.ntmps96
    go_wp2
    go_ret
    simp [inR, h1, h2]

theorem specInRange_ok (n lo hi : Int) (w : World) :
    Calls Try.prog 94 #[.int .i64 n, .int .i64 lo, .int .i64 hi] w fun e w' => e = .returned (.bool (inR n lo hi)) ∧ w = w' := by
  by_cases h1 : lo ≤ n <;> by_cases h2 : n ≤ hi
  all_goals
    go_enter Try.func94, Try.ntmps94
    go_wp2
    go_ret
    simp [inR, h1, h2]

def ceilDiv (a b : Int) : Int := if inR a 0 1000000000000 && inR b 1 1000000000000 then (a + b - 1) / b else 0

theorem implCeilDiv_ok (a b : Int) (w : World) :
    Calls Try.prog 146 #[.int .i64 a, .int .i64 b] w fun e w' => e = .returned (.int .i64 (ceilDiv a b)) ∧ w = w' := by
  cases h1 : inR a 0 1000000000000
  · go_enter Try.func146, Try.ntmps146
    go_wp2_with (go_at_call 96; refine (implInRange_ok _ _ _ _).mono ?_; rintro e w' ⟨rfl, rfl⟩)
    go_ret
    simp [ceilDiv, h1]
  · cases h2 : inR b 1 1000000000000
    · go_enter Try.func146, Try.ntmps146
      go_wp2_with (go_at_call 96; refine (implInRange_ok _ _ _ _).mono ?_; rintro e w' ⟨rfl, rfl⟩)
      go_ret
      simp [ceilDiv, h2]
    · obtain ⟨ha0, ha1⟩ := inR_true.1 h1
      obtain ⟨hb0, hb1⟩ := inR_true.1 h2
      go_enter Try.func146, Try.ntmps146
      go_wp2_with (go_at_call 96; refine (implInRange_ok _ _ _ _).mono ?_; rintro e w' ⟨rfl, rfl⟩)
      go_ret
      simp [ceilDiv, h1, h2]

/-- Go's Mod, for a modulus in range. -/
def modI (p q : Int) : Int := (p.tmod q + q) % q
theorem modI_range (p q : Int) (h : 1 ≤ q) : 0 ≤ modI p q ∧ modI p q < q := ⟨Int.emod_nonneg _ (by omega), Int.emod_lt_of_pos _ (by omega)⟩
theorem tmod_abs (p q : Int) (h : 1 ≤ q) : -q < p.tmod q ∧ p.tmod q < q := by
  constructor
  · by_cases hp : 0 ≤ p
    · have := Int.tmod_nonneg (a := p) q hp; omega
    · have h1 := Int.neg_tmod p q
      have h2 := Int.tmod_lt_of_pos (-p) (b := q) (by omega)
      omega
  · exact Int.tmod_lt_of_pos p (by omega)

end Go.Proofs.Ytkegknophppdgaa
