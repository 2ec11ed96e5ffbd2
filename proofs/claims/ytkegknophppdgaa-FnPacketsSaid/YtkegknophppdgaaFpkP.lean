/- FnPackets: plain facts. -/
import Derived.Test.YtkegknophppdgaaConsist
import Derived.Test.YtkegknophppdgaaSrc
namespace Go.Proofs.Ytkegknophppdgaa
open Go.RowKit
set_option linter.unusedVariables false
set_option maxRecDepth 20000

theorem codeOk_no {n : Int} {xss : List (List Int)} {cs : List Int} (h : codeOk n xss cs = false) : codeN n xss cs = 0 ∧ codeC n xss cs = [] ∧ codeP n xss cs = [] := by
  unfold codeN codeC codeP
  rw [h]
  exact ⟨rfl, rfl, rfl⟩
theorem codeOk_yes {n : Int} {xss : List (List Int)} {cs : List Int} (h : codeOk n xss cs = true) : codeN n xss cs = n ∧ codeC n xss cs = cs ∧ (codeP n xss cs).length = cols xss ∧ AllEl (codeP n xss cs) ∧ 1 ≤ cols xss ∧ cols xss ≤ 16 := by
  obtain ⟨h1, h2, h3, h4, h5, h6, h7⟩ := codeOk_parts h
  unfold codeN codeC codeP
  rw [h]
  unfold validG at h1
  simp only [Bool.and_eq_true] at h1
  have := inR_true.1 h1.2.2.2
  exact ⟨rfl, rfl, cmbTo_len _ h4 h3 _, cmbTo_AllEl _ _ _ _, by omega, by omega⟩
theorem valid_code {n : Int} {xss : List (List Int)} {cs : List Int} (h : codeOk n xss cs = true) : validPk n cs (codeP n xss cs) xss.length (cols xss) = true := by
  obtain ⟨h1, h2, h3, h4, h5, h6, h7⟩ := codeOk_parts h
  obtain ⟨k1, k2, k3, k4, k5, k6⟩ := codeOk_yes h
  unfold validG at h1
  simp only [Bool.and_eq_true] at h1
  unfold validPk fmtOk
  rw [h1.1, h1.2.1, h1.2.2.2, h2, decide_eq_true (show (cs.length : Int) = xss.length by omega), decide_eq_true (show ((codeP n xss cs).length : Int) = (cols xss : Int) by omega), validV_true.2 ⟨k4, by omega⟩]
  rfl
theorem consist_code {n : Int} {xss : List (List Int)} {cs : List Int} (h : codeOk n xss cs = true) : consist n xss n cs (codeP n xss cs) = true := by
  obtain ⟨k1, k2, _⟩ := codeOk_yes h
  unfold consist
  rw [h, k1, k2, eqPk_self]
  rfl
theorem consist_bad {n : Int} {xss : List (List Int)} {cs : List Int} (z : Int) (h : codeOk n xss cs = true) (hz : (codeP n xss cs)[0]? ≠ some z) : consist n xss n cs ((codeP n xss cs).set 0 z) = false := by
  obtain ⟨k1, k2, k3, k4, k5, k6⟩ := codeOk_yes h
  unfold consist eqPk
  have : decide ((codeP n xss cs).set 0 z = codeP n xss cs) = false := decide_eq_false (fun e => hz (by
    rw [← e, List.getElem?_set_self (by omega)]))
  rw [this]
  simp
theorem src_code {n : Int} {xss : List (List Int)} {cs : List Int} (h : codeOk n xss cs = true) {k : Nat} (hk : k < xss.length) : srcOk n xss k = true ∧ srcN n xss k = n ∧ srcC n xss k = unitV xss.length k ∧ srcP n xss k = xss.getD k [] := by
  obtain ⟨h1, h2, h3, h4, h5, h6, h7⟩ := codeOk_parts h
  have : srcOk n xss k = true := by
    unfold srcOk
    rw [h1, inR_true.2 ⟨by omega, by omega⟩]
    rfl
  unfold srcN srcC srcP
  rw [this]
  exact ⟨rfl, rfl, rfl, rfl⟩
theorem codeOk_split {n : Int} {xss : List (List Int)} {cs : List Int} (h : codeOk n xss cs = false) : validG n xss = false ∨ (validG n xss = true ∧ validV cs = false) ∨ (validG n xss = true ∧ validV cs = true ∧ ¬ cs.length = xss.length) := by
  unfold codeOk at h
  cases h1 : validG n xss
  · exact .inl rfl
  · cases h2 : validV cs
    · exact .inr (.inl ⟨rfl, rfl⟩)
    · rw [h1, h2] at h
      exact .inr (.inr ⟨rfl, rfl, of_decide_eq_false (by simpa using h)⟩)

end Go.Proofs.Ytkegknophppdgaa
