/- The law of CodePacket. -/
import Derived.Test.YtkegknophppdgaaCode
import Derived.Deep.RegionHeld3
namespace Go.Proofs.Ytkegknophppdgaa
open Go.RowKit
set_option linter.unusedVariables false
set_option maxRecDepth 20000

theorem codeC_len (n : Int) (xss : List (List Int)) (cs : List Int) : (codeC n xss cs).length ≤ 40 := by
  unfold codeC
  split
  · rename_i h; exact (validV_true.1 (codeOk_parts h).2.1).2
  · simp
theorem codeP_len (n : Int) (xss : List (List Int)) (cs : List Int) : (codeP n xss cs).length ≤ 40 := by
  unfold codeP
  split
  · rename_i h
    obtain ⟨_, _, hl, hvr, _, hn, _⟩ := codeOk_parts h
    rw [cmbTo_len cs hvr hl]
    obtain ⟨xs, hxs⟩ : ∃ xs, xss[0]? = some xs := ⟨_, List.getElem?_eq_getElem (by omega)⟩
    have := hvr.ok hxs
    omega
  · simp

theorem code_bounds (n : Int) (xss : List (List Int)) (cs : List Int) : (codeC n xss cs).length ≤ 1048576 ∧ (codeP n xss cs).length ≤ 1048576 := ⟨Nat.le_trans (codeC_len n xss cs) (by omega), Nat.le_trans (codeP_len n xss cs) (by omega)⟩

end Go.Proofs.Ytkegknophppdgaa
