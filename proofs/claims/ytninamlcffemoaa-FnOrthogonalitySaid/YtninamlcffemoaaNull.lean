/- Null spaces and spans as the programs compute them. No program is named. -/
import Derived.Test.YtninamlcffemoaaDetp
namespace Go.Proofs.Ytninamlcffemoaa
set_option linter.unusedVariables false
set_option maxRecDepth 20000

/-- The null vector of a free column f of reduced rows of n numbers. -/
def nullE (x : List (List Int)) (f j : Nat) : Int := if j = f then 1 else match x.find? (fun r => decide (ld r = j)) with | some r => (0 - ent r f) % 1019 | none => 0
def nullV (x : List (List Int)) (n f : Nat) : List Int := (List.range n).map (nullE x f)
def nullTo (x : List (List Int)) (n k : Nat) : List (List Int) := ((List.range k).filter (isFree x)).map (nullV x n)
theorem nullV_length (x : List (List Int)) (n f : Nat) : (nullV x n f).length = n := by simp [nullV]
theorem nullE_range (x : List (List Int)) (f j : Nat) : 0 ≤ nullE x f j ∧ nullE x f j ≤ 1018 := by
  unfold nullE
  split
  · omega
  · split <;> omega
theorem nullV_AllEl (x : List (List Int)) (n f : Nat) : AllEl (nullV x n f) := by
  intro y hy
  obtain ⟨j, _, rfl⟩ := List.mem_map.1 hy
  exact inR_true.2 (nullE_range x f j)
theorem nullTo_zero (x : List (List Int)) (n : Nat) : nullTo x n 0 = [] := rfl
theorem nullTo_yes {x : List (List Int)} {n k : Nat} (h : isFree x k = true) : nullTo x n (k + 1) = nullTo x n k ++ [nullV x n k] := by simp [nullTo, List.range_succ, List.filter_append, h]
theorem nullTo_no {x : List (List Int)} {n k : Nat} (h : isFree x k = false) : nullTo x n (k + 1) = nullTo x n k := by simp [nullTo, List.range_succ, List.filter_append, h]
theorem nullTo_len (x : List (List Int)) (n k : Nat) : (nullTo x n k).length ≤ k := by
  unfold nullTo
  rw [List.length_map]
  exact Nat.le_trans (List.length_filter_le _ _) (by simp)
theorem nullTo_VR {x : List (List Int)} {n k : Nat} (hn : n ≤ 40) : VR n (nullTo x n k) := by
  intro xs hx
  obtain ⟨f, _, rfl⟩ := List.mem_map.1 hx
  exact ⟨validV_true.2 ⟨nullV_AllEl x n f, by rw [nullV_length]; exact hn⟩, nullV_length x n f⟩
theorem nullTo_map (x : List (List Int)) (n k : Nat) : nullTo x n k = (freeTo x k).map (fun f => nullV x n f.toNat) := by
  unfold nullTo freeTo
  rw [List.map_map]
  apply List.map_congr_left
  intro f _
  simp

theorem find_ld {n : Nat} {x : List (List Int)} (h : RM n x) {i : Nat} (hi : i < x.length) : x.find? (fun r => decide (ld r = ld (x.getD i []))) = some (x.getD i []) := by
  have hget : x[i]? = some (x.getD i []) := getD_get hi
  have hfi : x.findIdx (fun r => decide (ld r = ld (x.getD i []))) = i := by
    rw [List.findIdx_eq hi]
    have hx : x[i] = x.getD i [] := by simp [List.getD, hi]
    refine ⟨by rw [hx]; simp, fun j hj => ?_⟩
    have hjx : x[j]'(by omega) = x.getD j [] := by simp [List.getD, show j < x.length by omega]
    rw [hjx]
    have := h.2.mono j i hj hi
    exact decide_eq_false (Nat.ne_of_lt this)
  rw [List.find?_eq_getElem?_findIdx, hfi]
  exact hget

/-- The program's way: row by row. -/
def nvTo (x : List (List Int)) (n f : Nat) : Nat → List Int
  | 0 => (List.replicate n 0).set f 1
  | k + 1 => (nvTo x n f k).set (ld (x.getD k [])) ((0 - ent (x.getD k []) f) % 1019)
theorem nvTo_length (x : List (List Int)) (n f k : Nat) : (nvTo x n f k).length = n := by
  induction k with
  | zero => simp [nvTo]
  | succ k ih => simp [nvTo, ih]
theorem isFree_ne {x : List (List Int)} {f : Nat} (h : isFree x f = true) {k : Nat} (hk : k < x.length) : ld (x.getD k []) ≠ f := by
  unfold isFree at h
  have := List.all_eq_true.1 h (x.getD k []) (List.mem_of_getElem? (getD_get hk))
  simpa using this
theorem nvTo_get {n : Nat} {x : List (List Int)} (h : RM n x) {f : Nat} (hf : isFree x f = true) (hfn : f < n) : ∀ k, k ≤ x.length → ∀ j, j < n → ent (nvTo x n f k) j = if j = f then 1 else match (x.take k).find? (fun r => decide (ld r = j)) with | some r => (0 - ent r f) % 1019 | none => 0 := by
  intro k
  induction k with
  | zero =>
    intro _ j hj
    simp only [nvTo, List.take_zero, List.find?_nil]
    by_cases e : j = f
    · rw [if_pos e, e, ent_some (x := 1) (by rw [List.getElem?_set_self (by simpa using hfn)])]
    · rw [if_neg e]
      have e' : ¬ f = j := fun h => e h.symm
      exact ent_some (by rw [List.getElem?_set_ne e', List.getElem?_replicate, if_pos hj])
  | succ k ih =>
    intro hk j hj
    have hkl : k < x.length := by omega
    have hne := isFree_ne hf hkl
    have hld := h.ld_lt hkl
    rw [take_snoc' hkl, List.find?_append]
    by_cases e : j = ld (x.getD k [])
    · have hnone : (x.take k).find? (fun r => decide (ld r = j)) = none := by
        rw [List.find?_eq_none]
        intro r hr
        obtain ⟨i, hi, rfl⟩ := List.mem_iff_getElem.1 hr
        simp at hi
        have := h.2.mono i k (by omega) hkl
        rw [show x.getD i [] = x[i]'(by omega) by simp [List.getD, show i < x.length by omega]] at this
        simp
        omega
      rw [hnone, if_neg (by omega)]
      simp only [Option.none_or, List.find?_cons, e, decide_true, nvTo]
      exact ent_some (by rw [List.getElem?_set_self (by rw [nvTo_length]; exact hld)])
    · have e' : ¬ ld (x.getD k []) = j := fun h => e h.symm
      have : ent (nvTo x n f (k + 1)) j = ent (nvTo x n f k) j := by
        unfold ent List.getD
        rw [nvTo, List.getElem?_set_ne e']
      rw [this, ih (by omega) j hj]
      have e2 : [x.getD k []].find? (fun r => decide (ld r = j)) = none := by
        rw [List.find?_eq_none]
        intro r hr
        rw [List.mem_singleton] at hr
        subst hr
        simpa using e'
      rw [e2, Option.or_none]
where
  take_snoc' {x : List (List Int)} {k : Nat} (hk : k < x.length) : x.take (k + 1) = x.take k ++ [x.getD k []] := by
    rw [List.take_add_one, getD_get hk]
    rfl
theorem nvTo_all {n : Nat} {x : List (List Int)} (h : RM n x) {f : Nat} (hf : isFree x f = true) (hfn : f < n) : nvTo x n f x.length = nullV x n f := by
  apply List.ext_getElem?
  intro j
  by_cases hj : j < n
  · rw [ent_get (by rw [nvTo_length]; exact hj), nvTo_get h hf hfn x.length (Nat.le_refl _) j hj, List.take_length]
    unfold nullV nullE
    simp [hj]
  · rw [List.getElem?_eq_none (by rw [nvTo_length]; omega), List.getElem?_eq_none (by rw [nullV_length]; omega)]

/-- The rows of a span, vector by vector. -/
def spanTo (vs : List (List Int)) (n : Nat) : Nat → List (List Int)
  | 0 => []
  | k + 1 => if validV (vs.getD k []) && decide ((vs.getD k []).length = n) then insM (spanTo vs n k) (vs.getD k []) else spanTo vs n k
theorem spanTo_RM {vs : List (List Int)} {n : Nat} (hn : n ≤ 40) : ∀ k, RM n (spanTo vs n k) ∧ (spanTo vs n k).length ≤ n := by
  have len : ∀ R : List (List Int), RM n R → R.length ≤ n := fun R h => by
    have key : ∀ i, i < R.length → i ≤ ld (R.getD i []) := by
      intro i
      induction i with
      | zero => intro _; omega
      | succ i ih => intro hi; have := ih (by omega); have := h.2.mono i (i + 1) (by omega) hi; omega
    by_cases h0 : R.length = 0
    · omega
    · have h1 := key (R.length - 1) (by omega)
      have h2 := h.ld_lt (i := R.length - 1) (by omega)
      omega
  intro k
  induction k with
  | zero => exact ⟨RM.nil n, by simp [spanTo]⟩
  | succ k ih =>
    rw [spanTo]
    split
    · rename_i hc
      rw [Bool.and_eq_true, decide_eq_true_eq] at hc
      have := (insM_ok hn ih.1 (validV_true.1 hc.1).1 hc.2).1
      exact ⟨this, len _ this⟩
    · exact ih

end Go.Proofs.Ytninamlcffemoaa
