/- The law of BytesToSymbols. -/
import Derived.Test.YtkegknophppdgaaSym2
import Derived.Test.YtkegknophppdgaaLawTot
namespace Go.Proofs.Ytkegknophppdgaa
open Go.RowKit
set_option linter.unusedVariables false
set_option maxRecDepth 20000

theorem syms_rows {ds : List Int} {m : Int} {xs : List Int} (h : xs ∈ syms ds m) : inR m 1 16 = true ∧ ds.length ≤ 400 ∧ xs.length = m.toNat := by
  unfold syms at h
  split at h
  · rename_i hc
    rw [Bool.and_eq_true, decide_eq_true_eq] at hc
    refine ⟨hc.1, hc.2, ?_⟩
    unfold symTo at h
    obtain ⟨i, _, rfl⟩ := List.mem_map.1 h
    exact symRow_length _ _ _
  · simp at h

theorem symN_le {m len : Nat} (h : 1 ≤ m) : symN m len ≤ len := by
  unfold symN
  rw [Nat.div_le_iff_le_mul_add_pred h]
  have : len ≤ m * len := Nat.le_mul_of_pos_left _ h
  omega

theorem syms_len (ds : List Int) (m : Int) : (syms ds m).length ≤ 407 := by
  unfold syms
  split
  · rename_i hc
    rw [Bool.and_eq_true, decide_eq_true_eq] at hc
    have h1 := inR_true.1 hc.1
    rw [symTo_length]
    have h2 := symN_le (m := m.toNat) (len := (encBytes [] ds).length) (by omega)
    have h3 := encBytes_len ds
    omega
  · simp

theorem syms_bound (ds : List Int) (m : Int) : (syms ds m).length ≤ 1048576 ∧ tot (syms ds m) ≤ 1048576 := by
  have h1 := syms_len ds m
  have h2 := tot_le (xss := syms ds m) (n := 16) (fun xs hx => by have := syms_rows hx; have := inR_true.1 this.1; omega)
  omega

end Go.Proofs.Ytkegknophppdgaa
