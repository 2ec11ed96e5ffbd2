/- How many numbers rows hold at most. -/
import Derived.Test.YtkegknophppdgaaMats
namespace Go.Proofs.Ytkegknophppdgaa
set_option linter.unusedVariables false
set_option maxRecDepth 20000

theorem tot_le {xss : List (List Int)} {n : Nat} (h : ∀ xs ∈ xss, xs.length ≤ n) : tot xss ≤ xss.length * n := by
  unfold tot
  induction xss with
  | nil => simp
  | cons x r ih =>
    have h1 := h x (by simp)
    have h2 := ih (fun xs hx => h xs (by simp [hx]))
    rw [List.flatten_cons, List.length_append, List.length_cons, Nat.succ_mul]
    omega

end Go.Proofs.Ytkegknophppdgaa
