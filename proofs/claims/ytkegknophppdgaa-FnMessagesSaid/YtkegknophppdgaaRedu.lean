/- Tests for reduced rows, determinants, free columns, null spaces, solutions: the plain functions that both sides compute. No program is named. -/
import Derived.Test.YtkegknophppdgaaIns
namespace Go.Proofs.Ytkegknophppdgaa
set_option linter.unusedVariables false
set_option maxRecDepth 20000

theorem validM_true {m : List (List Int)} : validM m = true ↔ VR (cols m) m ∧ m.length ≤ 40 := by
  unfold validM
  rw [Bool.and_eq_true, vrows_true, decide_eq_true_eq]
theorem VR.cols_le {n : Nat} {m : List (List Int)} (h : VR n m) (hm : m ≠ []) : n ≤ 40 := by
  cases m with
  | nil => exact absurd rfl hm
  | cons x r => have := h x (by simp); have := (validV_true.1 this.1).2; omega
theorem cols_le {m : List (List Int)} (h : VR (cols m) m) : cols m ≤ 40 := by
  cases m with
  | nil => simp [cols]
  | cons x r => exact h.cols_le (by simp)
theorem VR.cols {n : Nat} {m : List (List Int)} (h : VR n m) (hm : 0 < m.length) : cols m = n := by
  cases m with
  | nil => simp at hm
  | cons x r => exact (h x (by simp)).2

/-- Row i is as a reduced matrix has it. -/
def rowOk (m : List (List Int)) (i : Nat) : Prop :=
  ld (m.getD i []) < (m.getD i []).length ∧ (0 < i → ld (m.getD (i - 1) []) < ld (m.getD i [])) ∧ ent (m.getD i []) (ld (m.getD i [])) = 1 ∧ ∀ k, k < m.length → k ≠ i → ent (m.getD k []) (ld (m.getD i [])) = 0
theorem rowOk_iff {n : Nat} {m : List (List Int)} (hv : VR n m) : RM n m ↔ ∀ i, i < m.length → rowOk m i := by
  constructor
  · intro h i hi
    have h1 := hv.getD hi
    refine ⟨by rw [h1.2.1]; exact h.ld_lt hi, fun h0 => h.2.mono (i - 1) i (by omega) hi, ?_, fun k hk hne => ?_⟩
    · have := h.2.one i hi
      have hr := ent_range h1.1 (ld (m.getD i []))
      exact toK_inj hr.1 hr.2 (by omega) (by omega) (this.trans toK_one.symm)
    · have := h.2.other i k hi hk hne
      exact (vK_zero (hv.getD hk).1 _).1 this
  · intro h
    refine ⟨hv, fun i j hij hj => ?_, fun i hi => ?_, fun i hi j hj => ?_, fun i k hi hk hne => ?_⟩
    · induction j with
      | zero => omega
      | succ j ih =>
        have h1 := (h (j + 1) hj).2.1 (by omega)
        rw [Nat.add_sub_cancel] at h1
        by_cases e : i = j
        · rw [e]; exact h1
        · have := ih (by omega) (by omega)
          exact Nat.lt_trans this h1
    · show toK (ent (m.getD i []) (ld (m.getD i []))) = 1
      rw [(h i hi).2.2.1]; exact toK_one
    · show vK (m.getD i []) j = 0
      rw [vK_zero (hv.getD hi).1]; exact ld_zero hj
    · show vK (m.getD k []) (ld (m.getD i [])) = 0
      rw [vK_zero (hv.getD hk).1]; exact (h i hi).2.2.2 k hk hne

def isRedB (m : List (List Int)) : Bool := validM m && decide (gj m (cols m) = m)
theorem isRedB_no {m : List (List Int)} (h : validM m = false) : isRedB m = false := by unfold isRedB; rw [h]; rfl
theorem isRedB_RM {m : List (List Int)} : isRedB m = true ↔ RM (cols m) m ∧ m.length ≤ 40 := by
  unfold isRedB
  rw [Bool.and_eq_true, decide_eq_true_eq, validM_true]
  constructor
  · rintro ⟨⟨h1, h2⟩, h3⟩; exact ⟨(gj_fix (cols_le h1) h1).1 h3, h2⟩
  · rintro ⟨h1, h2⟩; exact ⟨⟨h1.1, h2⟩, (gj_fix (cols_le h1.1) h1.1).2 h1⟩
theorem isRedB_rowOk {m : List (List Int)} (h : validM m = true) : isRedB m = true ↔ ∀ i, i < m.length → rowOk m i := by
  have h1 := validM_true.1 h
  rw [isRedB_RM, rowOk_iff h1.1]
  exact ⟨fun h => h.1, fun k => ⟨k, h1.2⟩⟩
theorem isRedB_bad {m : List (List Int)} {i : Nat} (h : validM m = true) (hi : i < m.length) (hb : ¬ rowOk m i) : isRedB m = false := by
  cases hr : isRedB m
  · rfl
  · exact absurd ((isRedB_rowOk h).1 hr i hi) hb

/-- A basis is valid. -/
def validB (n : Int) (m : List (List Int)) : Bool := inR n 0 40 && (isRedB m && decide (m.length = 0 ∨ (cols m : Int) = n))
theorem validB_true {n : Int} {m : List (List Int)} : validB n m = true ↔ 0 ≤ n ∧ n ≤ 40 ∧ RM n.toNat m ∧ m.length ≤ 40 := by
  unfold validB
  rw [Bool.and_eq_true, Bool.and_eq_true, inR_true, decide_eq_true_eq, isRedB_RM]
  constructor
  · rintro ⟨⟨h1, h2⟩, ⟨h3, h4⟩, h5⟩
    refine ⟨h1, h2, ?_, h4⟩
    rcases h5 with h5 | h5
    · obtain rfl : m = [] := List.eq_nil_of_length_eq_zero h5
      exact RM.nil _
    · rw [← h5]; simpa using h3
  · rintro ⟨h1, h2, h3, h4⟩
    refine ⟨⟨h1, h2⟩, ⟨?_, h4⟩, ?_⟩
    · by_cases hm : 0 < m.length
      · rw [h3.1.cols hm]; exact h3
      · obtain rfl : m = [] := List.eq_nil_of_length_eq_zero (by omega)
        exact RM.nil _
    · by_cases hm : 0 < m.length
      · right; rw [h3.1.cols hm]; omega
      · left; omega

/-- Columns below n that no row begins in. -/
def isFree (m : List (List Int)) (c : Nat) : Bool := m.all (fun r => decide (ld r ≠ c))
def freeTo (m : List (List Int)) (k : Nat) : List Int := ((List.range k).filter (isFree m)).map (fun c => ((c : Nat) : Int))
theorem freeTo_zero (m : List (List Int)) : freeTo m 0 = [] := rfl
theorem freeTo_yes {m : List (List Int)} {k : Nat} (h : isFree m k = true) : freeTo m (k + 1) = freeTo m k ++ [(k : Int)] := by simp [freeTo, List.range_succ, List.filter_append, h]
theorem freeTo_no {m : List (List Int)} {k : Nat} (h : isFree m k = false) : freeTo m (k + 1) = freeTo m k := by simp [freeTo, List.range_succ, List.filter_append, h]
theorem freeTo_len (m : List (List Int)) (k : Nat) : (freeTo m k).length ≤ k := by
  unfold freeTo
  rw [List.length_map]
  exact Nat.le_trans (List.length_filter_le _ _) (by simp)

/-- A reduced vector's coordinates. -/
def coordTo (m : List (List Int)) (v : List Int) (k : Nat) : List Int := (List.range k).map fun i => ent v (ld (m.getD i []))
theorem coordTo_succ (m : List (List Int)) (v : List Int) (k : Nat) : coordTo m v (k + 1) = coordTo m v k ++ [ent v (ld (m.getD k []))] := by simp [coordTo, List.range_succ]
theorem coordTo_length (m : List (List Int)) (v : List Int) (k : Nat) : (coordTo m v k).length = k := by simp [coordTo]

end Go.Proofs.Ytkegknophppdgaa
