/- A combination of rows in the field. No program is named. -/
import Derived.Test.YtninamlcffemoaaElim
namespace Go.Proofs.Ytninamlcffemoaa
set_option linter.unusedVariables false
set_option maxRecDepth 20000

theorem cmbTo_K {n : Nat} {xss : List (List Int)} {cs : List Int} (h : VR n xss) (hl : xss.length = cs.length) (t : Nat) : ∀ j, j ≤ xss.length → vK (cmbTo n xss cs j) t = sumN j (fun i => vK cs i * mK xss i t) := by
  intro j
  induction j with
  | zero =>
    intro _
    rw [cmbTo_zero]
    show toK (ent (List.replicate n 0) t) = 0
    have : ent (List.replicate n (0 : Int)) t = 0 := by
      unfold ent
      rw [List.getD_eq_getElem?_getD, List.getElem?_replicate]
      split <;> rfl
    rw [this]; exact toK_zero
  | succ j ih =>
    intro hj
    have hx : xss[j]? = some (xss.getD j []) := getD_get (by omega)
    have hk : cs[j]? = some (ent cs j) := ent_get (by omega)
    rw [cmbTo_succ hx hk, vK_addS (by rw [cmbTo_len cs h hl, (h.getD (by omega)).2.1]), ih (by omega)]
    simp only [sumN]
    rfl

end Go.Proofs.Ytninamlcffemoaa
