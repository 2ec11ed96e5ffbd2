/- The program's elimination, row by row; what both forms reach is the same. No program is named. -/
import Derived.Test.YtkegknophppdgaaElim
namespace Go.Proofs.Ytkegknophppdgaa
set_option linter.unusedVariables false
set_option maxRecDepth 20000

/-- A vector, reduced by the first k rows. -/
def redTo (R : List (List Int)) (v : List Int) : Nat → List Int
  | 0 => v
  | k + 1 => el (redTo R v k) (R.getD k []) (ld (R.getD k []))
def redV (R : List (List Int)) (v : List Int) : List Int := redTo R v R.length
theorem redTo_ok {n : Nat} {R : List (List Int)} {v : List Int} (hR : VR n R) (hv : AllEl v) (hl : v.length = n) : ∀ k, k ≤ R.length → AllEl (redTo R v k) ∧ (redTo R v k).length = n := by
  intro k
  induction k with
  | zero => intro _; exact ⟨hv, hl⟩
  | succ k ih =>
    intro hk
    have h1 := ih (by omega)
    exact ⟨el_AllEl _ _ _, by rw [redTo, el_length (by rw [h1.2, (hR.getD (show k < R.length by omega)).2.1])]; exact h1.2⟩
theorem redTo_K {n : Nat} {R : List (List Int)} {v : List Int} (hR : RM n R) (hv : AllEl v) (hl : v.length = n) : ∀ k, k ≤ R.length → ∀ j, vK (redTo R v k) j = vK v j - sumN k (fun i => vK v (ld (R.getD i [])) * mK R i j) := by
  intro k
  induction k with
  | zero => intro _ j; simp only [redTo, sumN]; grind
  | succ k ih =>
    intro hk j
    have h1 := redTo_ok hR.1 hv hl k (by omega)
    have h2 := hR.1.getD (show k < R.length by omega)
    rw [redTo, vK_el (by rw [h1.2, h2.2.1]), ih (by omega), ih (by omega)]
    have hz : sumN k (fun i => vK v (ld (R.getD i [])) * mK R i (ld (R.getD k []))) = 0 := sumN_zero (fun i hi => by
      rw [hR.2.other k i (by omega) (by omega) (by omega)]; grind)
    rw [hz]
    simp only [sumN]
    show _ = vK v j - (_ + vK v (ld (R.getD k [])) * vK (R.getD k []) j)
    grind
section
variable {n : Nat} {R : List (List Int)} {v : List Int}
theorem redV_ok (hR : VR n R) (hv : AllEl v) (hl : v.length = n) : AllEl (redV R v) ∧ (redV R v).length = n := redTo_ok hR hv hl _ (Nat.le_refl _)
theorem redV_K (hR : RM n R) (hv : AllEl v) (hl : v.length = n) (j : Nat) : vK (redV R v) j = vK v j - sumN R.length (fun i => vK v (ld (R.getD i [])) * mK R i j) := redTo_K hR hv hl _ (Nat.le_refl _) j
theorem redV_piv (hR : RM n R) (hv : AllEl v) (hl : v.length = n) {i : Nat} (hi : i < R.length) : vK (redV R v) (ld (R.getD i [])) = 0 := by
  rw [redV_K hR hv hl, sumN_one hi (fun k hk hne => by rw [hR.2.other i k hi hk hne]; grind), hR.2.one i hi]
  grind
/-- A vector lies in the span of reduced rows if and only if nothing is left of it. -/
theorem redV_in (hR : RM n R) (hv : AllEl v) (hl : v.length = n) : InSp R.length (mK R) (vK v) ↔ ¬ ld (redV R v) < (redV R v).length := by
  have hu := redV_ok hR.1 hv hl
  constructor
  · intro h hlt
    apply ld_ne hlt
    rw [← vK_zero hu.1, redV_K hR hv hl, ← hR.2.coords h]
    grind
  · intro h
    refine ⟨fun i => vK v (ld (R.getD i [])), fun j => ?_⟩
    have := (vK_zero hu.1 j).2 (ld_allzero h j)
    rw [redV_K hR hv hl] at this
    grind
theorem redV_diff (hR : RM n R) (hv : AllEl v) (hl : v.length = n) : InSp R.length (mK R) (fun j => vK v j - vK (redV R v) j) :=
  ⟨fun i => vK v (ld (R.getD i [])), fun j => by show vK v j - vK (redV R v) j = _; rw [redV_K hR hv hl]; grind⟩
end

/-- The new row, and the others cleared by it. -/
def newRow' (u : List Int) : List Int := scl u (invI (ent u (ld u)))
/-- The first k rows are cleared. -/
def clrTo (R : List (List Int)) (row : List Int) (p k : Nat) : List (List Int) := R.mapIdx fun j r => if j < k then el r row p else r
def clr (R : List (List Int)) (row : List Int) (p : Nat) : List (List Int) := R.map fun r => el r row p
theorem clrTo_zero (R : List (List Int)) (row : List Int) (p : Nat) : clrTo R row p 0 = R := by
  apply List.ext_getElem?
  intro j
  simp [clrTo, List.getElem?_mapIdx]
theorem clrTo_all (R : List (List Int)) (row : List Int) (p : Nat) : clrTo R row p R.length = clr R row p := by
  apply List.ext_getElem?
  intro j
  rw [clrTo, clr, List.getElem?_mapIdx, List.getElem?_map]
  by_cases hj : j < R.length
  · simp [hj]
  · simp [List.getElem?_eq_none (Nat.le_of_not_lt hj)]
theorem clrTo_length (R : List (List Int)) (row : List Int) (p k : Nat) : (clrTo R row p k).length = R.length := by simp [clrTo]
theorem clrTo_get {R : List (List Int)} {row : List Int} {p k : Nat} {r : List Int} (h : R[k]? = some r) : (clrTo R row p k)[k]? = some r := by
  rw [clrTo, List.getElem?_mapIdx, h]
  simp
theorem clrTo_succ {R : List (List Int)} {row : List Int} {p k : Nat} {r : List Int} (h : R[k]? = some r) : clrTo R row p (k + 1) = (clrTo R row p k).set k (el r row p) := by
  have hk := (List.getElem?_eq_some_iff.1 h).1
  apply List.ext_getElem?
  intro j
  rw [List.getElem?_set]
  by_cases hij : k = j
  · subst hij
    rw [if_pos rfl, if_pos (by rw [clrTo_length]; exact hk), clrTo, List.getElem?_mapIdx, h]
    simp
  · rw [if_neg hij, clrTo, clrTo, List.getElem?_mapIdx, List.getElem?_mapIdx]
    by_cases hjk : j < k
    · simp [hjk, show j < k + 1 by omega]
    · simp [hjk, show ¬ j < k + 1 by omega]
/-- The place for the new row: behind the last of the first k rows that begins before column p. -/
def placeTo (R : List (List Int)) (p : Nat) : Nat → Nat
  | 0 => 0
  | k + 1 => if ld (R.getD k []) < p then k + 1 else placeTo R p k
theorem placeTo_le (R : List (List Int)) (p : Nat) : ∀ k, placeTo R p k ≤ k := by
  intro k
  induction k with
  | zero => exact Nat.le_refl _
  | succ k ih => rw [placeTo]; split <;> omega
def insM (R : List (List Int)) (v : List Int) : List (List Int) :=
  if ld (redV R v) < (redV R v).length then
    (clr R (newRow' (redV R v)) (ld (redV R v))).take (placeTo (clr R (newRow' (redV R v)) (ld (redV R v))) (ld (redV R v)) R.length) ++ newRow' (redV R v) :: (clr R (newRow' (redV R v)) (ld (redV R v))).drop (placeTo (clr R (newRow' (redV R v)) (ld (redV R v))) (ld (redV R v)) R.length)
  else R

/-- The insertion, in functions. -/
theorem istep {r t p : Nat} {R S : Nat → Vec} {P : Nat → Nat} {row : Vec} (h : Red r R P) (ht : t ≤ r) (hlo : ∀ i, i < t → P i < p) (hhi : ∀ i, t ≤ i → i < r → p < P i)
    (h1 : row p = 1) (h0 : ∀ j, j < p → row j = 0) (hpiv : ∀ i, i < r → row (P i) = 0)
    (hS : ∀ i, i < r + 1 → ∀ j, S i j = if i < t then R i j - R i p * row j else if i = t then row j else R (i - 1) j - R (i - 1) p * row j) :
    Red (r + 1) S (fun i => if i < t then P i else if i = t then p else P (i - 1)) := by
  have hE : ∀ i, i < r → (R i (P i) - R i p * row (P i) = 1) ∧ (∀ j, j < P i → R i j - R i p * row j = 0) := by
    intro i hi
    refine ⟨by rw [h.one i hi, hpiv i hi]; grind, fun j hj => ?_⟩
    rw [h.zero i hi j hj]
    by_cases hip : P i < p
    · rw [h0 j (by omega)]; grind
    · have hpp : p < P i := by
        by_cases hit : i < t
        · exact absurd (hlo i hit) hip
        · exact hhi i (by omega) hi
      rw [h.zero i hi p hpp]; grind
  have hO : ∀ i k, i < r → k < r → k ≠ i → R k (P i) - R k p * row (P i) = 0 := fun i k hi hk hne => by rw [h.other i k hi hk hne, hpiv i hi]; grind
  refine ⟨fun i j hij hj => ?_, fun i hi => ?_, fun i hi j hj => ?_, fun i k hi hk hne => ?_⟩
  · by_cases a1 : i < t
    · rw [if_pos a1]
      by_cases b1 : j < t
      · rw [if_pos b1]; exact h.mono i j hij (by omega)
      · rw [if_neg b1]
        by_cases b2 : j = t
        · rw [if_pos b2]; exact hlo i a1
        · rw [if_neg b2]; exact Nat.lt_trans (hlo i a1) (hhi (j - 1) (by omega) (by omega))
    · rw [if_neg a1, if_neg (show ¬ j < t by omega), if_neg (show ¬ j = t by omega)]
      by_cases a2 : i = t
      · rw [if_pos a2]; exact hhi (j - 1) (by omega) (by omega)
      · rw [if_neg a2]; exact h.mono (i - 1) (j - 1) (by omega) (by omega)
  · rw [hS i hi]
    by_cases a1 : i < t
    · rw [if_pos a1, if_pos a1]; exact (hE i (by omega)).1
    · rw [if_neg a1, if_neg a1]
      by_cases a2 : i = t
      · rw [if_pos a2, if_pos a2]; exact h1
      · rw [if_neg a2, if_neg a2]; exact (hE (i - 1) (by omega)).1
  · rw [hS i hi]
    by_cases a1 : i < t
    · rw [if_pos a1] at hj ⊢; exact (hE i (by omega)).2 j hj
    · rw [if_neg a1] at hj ⊢
      by_cases a2 : i = t
      · rw [if_pos a2] at hj ⊢; exact h0 j hj
      · rw [if_neg a2] at hj ⊢; exact (hE (i - 1) (by omega)).2 j hj
  · rw [hS k hk]
    by_cases a1 : i < t
    · rw [if_pos a1]
      by_cases b1 : k < t
      · rw [if_pos b1]; exact hO i k (by omega) (by omega) hne
      · rw [if_neg b1]
        by_cases b2 : k = t
        · rw [if_pos b2]; exact hpiv i (by omega)
        · rw [if_neg b2]; exact hO i (k - 1) (by omega) (by omega) (by omega)
    · rw [if_neg a1]
      by_cases a2 : i = t
      · rw [if_pos a2]
        by_cases b1 : k < t
        · rw [if_pos b1, h1]; grind
        · rw [if_neg b1, if_neg (show ¬ k = t by omega), h1]; grind
      · rw [if_neg a2]
        by_cases b1 : k < t
        · rw [if_pos b1]; exact hO (i - 1) k (by omega) (by omega) (by omega)
        · rw [if_neg b1]
          by_cases b2 : k = t
          · rw [if_pos b2]; exact hpiv (i - 1) (by omega)
          · rw [if_neg b2]; exact hO (i - 1) (k - 1) (by omega) (by omega) (by omega)

theorem placeTo_spec {R : List (List Int)} {p r : Nat} (hmono : ∀ i j, i < j → j < r → ld (R.getD i []) < ld (R.getD j [])) : ∀ k, k ≤ r → (∀ i, i < placeTo R p k → ld (R.getD i []) < p) ∧ (∀ i, placeTo R p k ≤ i → i < k → ¬ ld (R.getD i []) < p) := by
  intro k
  induction k with
  | zero => intro _; exact ⟨fun i hi => absurd hi (Nat.not_lt_zero _), fun i _ hi => absurd hi (Nat.not_lt_zero _)⟩
  | succ k ih =>
    intro hk
    rw [placeTo]
    by_cases h : ld (R.getD k []) < p
    · rw [if_pos h]
      refine ⟨fun i hi => ?_, fun i h1 h2 => by omega⟩
      by_cases e : i = k
      · rw [e]; exact h
      · have := hmono i k (by omega) (by omega); omega
    · rw [if_neg h]
      obtain ⟨q1, q2⟩ := ih (by omega)
      refine ⟨q1, fun i h1 h2 => ?_⟩
      by_cases e : i = k
      · rw [e]; exact h
      · exact q2 i h1 (by omega)

section
variable {n : Nat} {R : List (List Int)} {v : List Int}
theorem newRow'_ok {u : List Int} (hu : AllEl u) (h : ld u < u.length) : AllEl (newRow' u) ∧ (newRow' u).length = u.length ∧ vK (newRow' u) (ld u) = 1 ∧ (∀ j, vK (newRow' u) j = toK (invI (ent u (ld u))) * vK u j) ∧ ld (newRow' u) = ld u := by
  have hr := ent_range hu (ld u)
  have hK : ∀ j, vK (newRow' u) j = toK (invI (ent u (ld u))) * vK u j := fun j => vK_scl _ _ j
  have h1 : vK (newRow' u) (ld u) = 1 := by
    rw [hK, ← invI_K hr.1 hr.2 (ld_ne h)]
    show _ * toK _ = _
    grind
  have hA : AllEl (newRow' u) := scl_AllEl _ _
  refine ⟨hA, scl_length _ _, h1, hK, ld_eq ?_ (fun j hj => ?_)⟩
  · rw [Ne, ← vK_zero hA, h1]; exact K_one_ne
  · rw [← vK_zero hA, hK, (vK_zero hu j).2 (ld_zero hj)]; grind
theorem clr_getD {row : List Int} {p i : Nat} (hi : i < R.length) : (clr R row p).getD i [] = el (R.getD i []) row p := by
  unfold clr
  simp [List.getD_eq_getElem?_getD, List.getElem?_eq_getElem hi]
theorem clr_length (R : List (List Int)) (row : List Int) (p : Nat) : (clr R row p).length = R.length := by simp [clr]

/-- Clearing leaves the leading indices. -/
theorem clr_ld (hR : RM n R) {row : List Int} {p : Nat} (hl : row.length = n) (h0 : ∀ j, j < p → vK row j = 0) (hpiv : ∀ i, i < R.length → vK row (ld (R.getD i [])) = 0) {i : Nat} (hi : i < R.length) (hne : ld (R.getD i []) ≠ p) : ld (el (R.getD i []) row p) = ld (R.getD i []) := by
  have hv := hR.1.getD hi
  have hA : AllEl (el (R.getD i []) row p) := el_AllEl _ _ _
  have hK : ∀ j, vK (el (R.getD i []) row p) j = mK R i j - mK R i p * vK row j := fun j => vK_el (by omega) p j
  refine ld_eq ?_ (fun j hj => ?_)
  · rw [Ne, ← vK_zero hA, hK, hpiv i hi, hR.2.one i hi]
    intro hc
    exact K_one_ne (by grind)
  · rw [← vK_zero hA, hK, hR.2.zero i hi j hj]
    by_cases hlt : ld (R.getD i []) < p
    · rw [h0 j (by omega)]; grind
    · rw [hR.2.zero i hi p (by omega)]; grind

theorem insM_ok (hn : n ≤ 40) (hR : RM n R) (hv : AllEl v) (hl : v.length = n) : RM n (insM R v) ∧ SameSp (R ++ [v]).length (mK (R ++ [v])) (insM R v).length (mK (insM R v)) := by
  have hu := redV_ok hR.1 hv hl
  have hlast : mK (R ++ [v]) R.length = vK v := by unfold mK; simp
  have hfirst : ∀ i, i < R.length → mK (R ++ [v]) i = mK R i := fun i hi => by unfold mK; simp [List.getElem?_append_left hi]
  by_cases hlt : ld (redV R v) < (redV R v).length
  · have hins : insM R v = (clr R (newRow' (redV R v)) (ld (redV R v))).take (placeTo (clr R (newRow' (redV R v)) (ld (redV R v))) (ld (redV R v)) R.length) ++ newRow' (redV R v) :: (clr R (newRow' (redV R v)) (ld (redV R v))).drop (placeTo (clr R (newRow' (redV R v)) (ld (redV R v))) (ld (redV R v)) R.length) := by
      unfold insM; rw [if_pos hlt]
    obtain ⟨w1, w2, w3, w4, w5⟩ := newRow'_ok hu.1 hlt
    have hpv : ∀ i, i < R.length → vK (newRow' (redV R v)) (ld (R.getD i [])) = 0 := fun i hi => by rw [w4, redV_piv hR hv hl hi]; grind
    have hp0 : ∀ j, j < ld (redV R v) → vK (newRow' (redV R v)) j = 0 := fun j hj => by rw [w4, (vK_zero hu.1 j).2 (ld_zero hj)]; grind
    have hun := ld_ne hlt
    have hdif := redV_diff hR hv hl
    have hwu : ∀ j, vK (redV R v) j = toK (ent (redV R v) (ld (redV R v))) * vK (newRow' (redV R v)) j := fun j => by
      have hr := ent_range hu.1 (ld (redV R v))
      have := invI_K hr.1 hr.2 hun
      rw [w4]; grind
    generalize hrow : newRow' (redV R v) = row at *
    generalize hp : ld (redV R v) = p at *
    have hpne : ∀ i, i < R.length → ld (R.getD i []) ≠ p := fun i hi e => by have := hpv i hi; rw [e, w3] at this; exact K_one_ne this
    have hrl : row.length = n := by rw [w2]; exact hu.2
    have hcl := clr_length R row p
    have hld : ∀ i, i < R.length → ld ((clr R row p).getD i []) = ld (R.getD i []) := fun i hi => by rw [clr_getD hi]; exact clr_ld hR hrl hp0 hpv hi (hpne i hi)
    have hmono : ∀ i j, i < j → j < R.length → ld ((clr R row p).getD i []) < ld ((clr R row p).getD j []) := fun i j hij hj => by rw [hld i (by omega), hld j hj]; exact hR.2.mono i j hij hj
    obtain ⟨s1, s2⟩ := placeTo_spec (p := p) hmono R.length (Nat.le_refl _)
    have htl := placeTo_le (clr R row p) p R.length
    generalize placeTo (clr R row p) p R.length = t at *
    have hlen : (insM R v).length = R.length + 1 := by rw [hins]; simp [hcl]; omega
    have hget : ∀ i, i < R.length + 1 → (insM R v).getD i [] = if i < t then el (R.getD i []) row p else if i = t then row else el (R.getD (i - 1) []) row p := by
      intro i hi
      have htk : ((clr R row p).take t).length = t := by simp [hcl]; omega
      rw [hins]
      by_cases a1 : i < t
      · rw [if_pos a1, ← clr_getD (row := row) (p := p) (show i < R.length by omega)]
        simp only [List.getD_eq_getElem?_getD]
        rw [List.getElem?_append_left (by omega), List.getElem?_take, if_pos a1]
      · rw [if_neg a1]
        by_cases a2 : i = t
        · rw [if_pos a2]
          simp only [List.getD_eq_getElem?_getD]
          rw [List.getElem?_append_right (by omega), htk, a2, Nat.sub_self]
          rfl
        · rw [if_neg a2, ← clr_getD (row := row) (p := p) (show i - 1 < R.length by omega)]
          simp only [List.getD_eq_getElem?_getD]
          rw [List.getElem?_append_right (by omega), htk, show i - t = (i - 1 - t) + 1 by omega, List.getElem?_cons_succ, List.getElem?_drop, show t + (i - 1 - t) = i - 1 by omega]
    have hKe : ∀ i, i < R.length → ∀ j, vK (el (R.getD i []) row p) j = mK R i j - mK R i p * vK row j := fun i hi j => vK_el (by rw [(hR.1.getD hi).2.1, hrl]) p j
    have hS : ∀ i, i < R.length + 1 → ∀ j, mK (insM R v) i j = if i < t then mK R i j - mK R i p * vK row j else if i = t then vK row j else mK R (i - 1) j - mK R (i - 1) p * vK row j := by
      intro i hi j
      show vK ((insM R v).getD i []) j = _
      rw [hget i hi]
      by_cases a1 : i < t
      · rw [if_pos a1, if_pos a1]; exact hKe i (by omega) j
      · rw [if_neg a1, if_neg a1]
        by_cases a2 : i = t
        · rw [if_pos a2, if_pos a2]
        · rw [if_neg a2, if_neg a2]; exact hKe (i - 1) (by omega) j
    have hred := istep (S := mK (insM R v)) hR.2 htl (fun i hi => by have := s1 i hi; rw [hld i (by omega)] at this; exact this)
      (fun i h1 h2 => by have := s2 i h1 h2; rw [hld i h2] at this; have := hpne i h2; omega) w3 hp0 hpv hS
    have hvr : VR n (insM R v) := by
      refine VR.mk' hn (fun i hi => ?_)
      rw [hlen] at hi
      rw [hget i hi]
      have hel : ∀ q, q < R.length → AllEl (el (R.getD q []) row p) ∧ (el (R.getD q []) row p).length = n := fun q hq => ⟨el_AllEl _ _ _, by rw [el_length (by rw [(hR.1.getD hq).2.1, hrl])]; exact (hR.1.getD hq).2.1⟩
      split
      · exact hel i (by omega)
      · split
        · exact ⟨w1, hrl⟩
        · exact hel (i - 1) (by omega)
    refine ⟨RM.of (P := fun i => if i < t then ld (R.getD i []) else if i = t then p else ld (R.getD (i - 1) [])) hvr (by rw [hlen]; exact hred), ?_, ?_⟩
    · have hrowin : InSp (insM R v).length (mK (insM R v)) (vK row) := (InSp.row (mK (insM R v)) (show t < (insM R v).length by omega)).congr (fun j => by rw [hS t (by omega), if_neg (Nat.lt_irrefl _), if_pos rfl])
      have hold : ∀ i, i < R.length → InSp (insM R v).length (mK (insM R v)) (mK R i) := by
        intro i hi
        by_cases a1 : i < t
        · exact ((InSp.row (mK (insM R v)) (show i < (insM R v).length by omega)).add hrowin (mK R i p)).congr (fun j => by rw [hS i (by omega), if_pos a1]; grind)
        · exact ((InSp.row (mK (insM R v)) (show i + 1 < (insM R v).length by omega)).add hrowin (mK R i p)).congr (fun j => by rw [hS (i + 1) (by omega), if_neg (by omega), if_neg (by omega), Nat.add_sub_cancel]; grind)
      intro i hi
      simp at hi
      by_cases e : i < R.length
      · rw [hfirst i e]; exact hold i e
      · rw [show i = R.length by omega, hlast]
        exact ((hdif.trans hold).add hrowin (toK (ent (redV R v) p))).congr (fun j => by rw [hwu j]; grind)
    · have hvin : InSp (R ++ [v]).length (mK (R ++ [v])) (vK v) := (InSp.row (mK (R ++ [v])) (show R.length < (R ++ [v]).length by simp)).congr (fun j => by rw [hlast])
      have hold : ∀ i, i < R.length → InSp (R ++ [v]).length (mK (R ++ [v])) (mK R i) := fun i hi => (InSp.row (mK (R ++ [v])) (show i < (R ++ [v]).length by simp; omega)).congr (fun j => by rw [hfirst i hi])
      have hrowin : InSp (R ++ [v]).length (mK (R ++ [v])) (vK row) := ((hvin.add (hdif.trans hold) (-1)).mul (toK (invI (ent (redV R v) p)))).congr (fun j => by rw [w4 j]; grind)
      intro i hi
      rw [hlen] at hi
      by_cases a1 : i < t
      · exact ((hold i (by omega)).add hrowin (-(mK R i p))).congr (fun j => by rw [hS i hi, if_pos a1]; grind)
      · by_cases a2 : i = t
        · exact hrowin.congr (fun j => by rw [hS i hi, if_neg a1, if_pos a2])
        · exact ((hold (i - 1) (by omega)).add hrowin (-(mK R (i - 1) p))).congr (fun j => by rw [hS i hi, if_neg a1, if_neg a2]; grind)
  · have hins : insM R v = R := by unfold insM; rw [if_neg hlt]
    rw [hins]
    refine ⟨hR, fun i hi => ?_, fun i hi => ?_⟩
    · simp at hi
      by_cases e : i < R.length
      · rw [hfirst i e]; exact InSp.row _ e
      · rw [show i = R.length by omega, hlast]
        exact (redV_in hR hv hl).2 hlt
    · exact (InSp.row (mK (R ++ [v])) (show i < (R ++ [v]).length by simp; omega)).congr (fun j => by rw [hfirst i hi])
theorem insM_le (R : List (List Int)) (v : List Int) : (insM R v).length ≤ R.length + 1 := by
  unfold insM
  split
  · simp [clr_length]; omega
  · omega
end

/-- The program's reduced form of the first k rows. -/
def insTo (m : List (List Int)) : Nat → List (List Int)
  | 0 => []
  | k + 1 => insM (insTo m k) (m.getD k [])
theorem SameSp.snoc {n : Nat} {a b : List (List Int)} (h : SameSp a.length (mK a) b.length (mK b)) (v : List Int) : SameSp (a ++ [v]).length (mK (a ++ [v])) (b ++ [v]).length (mK (b ++ [v])) := by
  have hlast : ∀ c : List (List Int), mK (c ++ [v]) c.length = vK v := fun c => by unfold mK; simp
  have hfirst : ∀ (c : List (List Int)) i, i < c.length → mK (c ++ [v]) i = mK c i := fun c i hi => by unfold mK; simp [List.getElem?_append_left hi]
  have key : ∀ c d : List (List Int), (∀ i, i < c.length → InSp d.length (mK d) (mK c i)) → ∀ i, i < (c ++ [v]).length → InSp (d ++ [v]).length (mK (d ++ [v])) (mK (c ++ [v]) i) := by
    intro c d hcd i hi
    simp at hi
    by_cases e : i < c.length
    · rw [hfirst c i e]
      exact (hcd i e).trans (fun q hq => (InSp.row (mK (d ++ [v])) (show q < (d ++ [v]).length by simp; omega)).congr (fun j => by rw [hfirst d q hq]))
    · rw [show i = c.length by omega, hlast]
      exact (InSp.row (mK (d ++ [v])) (show d.length < (d ++ [v]).length by simp)).congr (fun j => by rw [hlast])
  exact ⟨key a b h.1, key b a h.2⟩
theorem insTo_ok {n : Nat} {m : List (List Int)} (hn : n ≤ 40) (h : VR n m) : ∀ k, k ≤ m.length → RM n (insTo m k) ∧ SameSp (m.take k).length (mK (m.take k)) (insTo m k).length (mK (insTo m k)) ∧ (insTo m k).length ≤ k := by
  intro k
  induction k with
  | zero => intro _; exact ⟨RM.nil n, by simpa [insTo] using SameSp.refl 0 (mK []), Nat.le_refl _⟩
  | succ k ih =>
    intro hk
    obtain ⟨h1, h2, h3⟩ := ih (by omega)
    have hv := h.getD (show k < m.length by omega)
    obtain ⟨q1, q2⟩ := insM_ok hn h1 hv.1 hv.2.1
    have ht : m.take (k + 1) = m.take k ++ [m.getD k []] := by rw [List.take_add_one, getD_get (show k < m.length by omega)]; rfl
    refine ⟨q1, ?_, by have := insM_le (insTo m k) (m.getD k []); rw [insTo]; omega⟩
    rw [ht]
    exact (SameSp.snoc (n := n) h2 (m.getD k [])).trans q2
/-- Both forms of elimination give the same rows. -/
theorem ins_gj {n : Nat} {m : List (List Int)} (hn : n ≤ 40) (h : VR n m) : insTo m m.length = gj m n := by
  obtain ⟨h1, h2, _⟩ := insTo_ok hn h m.length (Nat.le_refl _)
  rw [List.take_length] at h2
  obtain ⟨g1, _, g3⟩ := gj_red (k := n) hn h
  exact h1.eq g1 (h2.symm.trans (g3 (Nat.le_refl _)))
/-- The reference's form leaves reduced rows as they are. -/
theorem gj_fix {n : Nat} {m : List (List Int)} (hn : n ≤ 40) (h : VR n m) : gj m n = m ↔ RM n m := by
  obtain ⟨g1, _, g3⟩ := gj_red (k := n) hn h
  constructor
  · intro e; rw [← e]; exact g1
  · intro e; exact g1.eq e (g3 (Nat.le_refl _)).symm

end Go.Proofs.Ytkegknophppdgaa
