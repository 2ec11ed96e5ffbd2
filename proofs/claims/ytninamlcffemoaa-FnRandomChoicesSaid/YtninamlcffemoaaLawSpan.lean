/- SpanOf: the law. -/
import Derived.Test.YtninamlcffemoaaSpanT
import Derived.Test.YtninamlcffemoaaLawTot
namespace Go.Proofs.Ytninamlcffemoaa
open Go.RowKit
set_option linter.unusedVariables false
set_option maxRecDepth 20000

theorem spanR_bound (vs : List (List Int)) (n : Int) : (spanR vs n).length ≤ 40 ∧ ∀ xs ∈ spanR vs n, xs.length ≤ 40 := by
  unfold spanR
  split
  · rename_i h
    obtain ⟨h0, h1⟩ := inR_true.1 h
    have h2 := spanTo_RM (vs := vs) (n := n.toNat) (by omega) vs.length
    exact ⟨by omega, fun xs hx => by have := (h2.1.1 xs hx).2; omega⟩
  · simp
theorem spanR_tot (vs : List (List Int)) (n : Int) : (spanR vs n).length ≤ 1048576 ∧ tot (spanR vs n) ≤ 1048576 := by
  obtain ⟨h1, h2⟩ := spanR_bound vs n
  have := tot_le h2
  omega

end Go.Proofs.Ytninamlcffemoaa
