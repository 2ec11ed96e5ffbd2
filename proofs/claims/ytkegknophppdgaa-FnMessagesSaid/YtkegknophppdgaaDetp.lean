/- Determinants and solutions as the programs compute them. No program is named. -/
import Derived.Test.YtkegknophppdgaaRedu
namespace Go.Proofs.Ytkegknophppdgaa
set_option linter.unusedVariables false
set_option maxRecDepth 20000

/-- A row with a multiple of the pivot's row added, so that column k becomes 0. -/
def dk (r : List Int) (k : Nat) (inv : Int) : Int := (0 - ent r k * inv % 1019) % 1019
theorem dk_range (r : List Int) (k : Nat) (inv : Int) : inR (dk r k inv) 0 1018 = true := by
  refine inR_true.2 ?_
  unfold dk
  omega
def dcl (r row : List Int) (k : Nat) (inv : Int) : List Int := addS r row (dk r k inv)
theorem dcl_length {r row : List Int} (h : r.length = row.length) (k : Nat) (inv : Int) : (dcl r row k inv).length = r.length := addS_len h _
theorem dcl_AllEl (r row : List Int) (k : Nat) (inv : Int) : AllEl (dcl r row k inv) := addS_AllEl _ _ _
/-- The rows between k and i (both left out) are cleared. -/
def dclTo (rows : List (List Int)) (row : List Int) (k : Nat) (inv : Int) (i : Nat) : List (List Int) := rows.mapIdx fun j r => if k < j ∧ j < i then dcl r row k inv else r
theorem dclTo_length (rows : List (List Int)) (row : List Int) (k : Nat) (inv : Int) (i : Nat) : (dclTo rows row k inv i).length = rows.length := by simp [dclTo]
theorem dclTo_get {rows : List (List Int)} {row : List Int} {k : Nat} {inv : Int} {i j : Nat} {r : List Int} (h : rows[j]? = some r) : (dclTo rows row k inv i)[j]? = some (if k < j ∧ j < i then dcl r row k inv else r) := by
  rw [dclTo, List.getElem?_mapIdx, h]
  rfl
theorem dclTo_start (rows : List (List Int)) (row : List Int) (k : Nat) (inv : Int) : dclTo rows row k inv (k + 1) = rows := by
  apply List.ext_getElem?
  intro j
  rw [dclTo, List.getElem?_mapIdx]
  cases rows[j]? with
  | none => rfl
  | some r => simp only [Option.map_some]; rw [if_neg (by omega)]
theorem dclTo_succ {rows : List (List Int)} {row : List Int} {k : Nat} {inv : Int} {i : Nat} {r : List Int} (h : rows[i]? = some r) (hk : k < i) : dclTo rows row k inv (i + 1) = (dclTo rows row k inv i).set i (dcl r row k inv) := by
  have hi := (List.getElem?_eq_some_iff.1 h).1
  apply List.ext_getElem?
  intro j
  rw [List.getElem?_set]
  by_cases hij : i = j
  · subst hij
    rw [if_pos rfl, if_pos (by rw [dclTo_length]; exact hi), dclTo_get h, if_pos (by omega)]
  · rw [if_neg hij, dclTo, dclTo, List.getElem?_mapIdx, List.getElem?_mapIdx]
    cases rows[j]? with
    | none => rfl
    | some r =>
      simp only [Option.map_some]
      by_cases h1 : k < j ∧ j < i
      · rw [if_pos h1, if_pos (by omega)]
      · rw [if_neg h1, if_neg (by omega)]
theorem dclTo_VR {n : Nat} {rows : List (List Int)} {row : List Int} {k : Nat} {inv : Int} {i : Nat} (hn : n ≤ 40) (h : VR n rows) (hr : row.length = n) : VR n (dclTo rows row k inv i) := by
  refine VR.mk' hn fun j hj => ?_
  rw [dclTo_length] at hj
  have h1 := h.getD hj
  rw [getD_some (dclTo_get (getD_get hj))]
  split
  · exact ⟨dcl_AllEl _ _ _ _, by rw [dcl_length (by omega)]; exact h1.2.1⟩
  · exact ⟨h1.1, h1.2.1⟩

/-- Rows k and p change places. -/
def dSwap (rows : List (List Int)) (k p : Nat) : List (List Int) := (rows.set p (rows.getD k [])).set k (rows.getD p [])
theorem dSwap_length (rows : List (List Int)) (k p : Nat) : (dSwap rows k p).length = rows.length := by simp [dSwap]
theorem dSwap_getD {rows : List (List Int)} {k p i : Nat} (hk : k < rows.length) (hp : p < rows.length) : (dSwap rows k p).getD i [] = if i = k then rows.getD p [] else if i = p then rows.getD k [] else rows.getD i [] := by
  unfold dSwap List.getD
  rw [List.getElem?_set]
  by_cases h1 : k = i
  · rw [if_pos h1, if_pos (by simp; omega), if_pos h1.symm]; rfl
  · rw [if_neg h1, if_neg (by omega), List.getElem?_set]
    by_cases h2 : p = i
    · rw [if_pos h2, if_pos hp, if_pos h2.symm]; rfl
    · rw [if_neg h2, if_neg (by omega)]
theorem dSwap_self {rows : List (List Int)} {k : Nat} (hk : k < rows.length) : dSwap rows k k = rows := by
  apply List.ext_getElem?
  intro j
  unfold dSwap
  rw [List.getElem?_set, List.getElem?_set]
  by_cases h : k = j
  · subst h
    rw [if_pos rfl, if_pos (by simp; omega), getD_get hk]
  · rw [if_neg h, if_neg h]
theorem dSwap_VR {n : Nat} {rows : List (List Int)} {k p : Nat} (hn : n ≤ 40) (h : VR n rows) (hk : k < rows.length) (hp : p < rows.length) : VR n (dSwap rows k p) := by
  refine VR.mk' hn fun i hi => ?_
  rw [dSwap_length] at hi
  rw [dSwap_getD hk hp]
  split
  · have := h.getD hp; exact ⟨this.1, this.2.1⟩
  · split
    · have := h.getD hk; exact ⟨this.1, this.2.1⟩
    · have := h.getD hi; exact ⟨this.1, this.2.1⟩

/-- The sign and the pivot. -/
def detD (rows : List (List Int)) (k p : Nat) (d : Int) : Int := (if p = k then d else (0 - d) % 1019) * ent (rows.getD p []) k % 1019
def detRows (rows : List (List Int)) (k p : Nat) : List (List Int) := dclTo (dSwap rows k p) (rows.getD p []) k (invI (ent (rows.getD p []) k)) rows.length
def detStep (k : Nat) (s : Option (List (List Int) × Int)) : Option (List (List Int) × Int) :=
  match s with
  | none => none
  | some (rows, d) => if pivAt rows k k < rows.length then some (detRows rows k (pivAt rows k k), detD rows k (pivAt rows k k) d) else none
def detTo (m : List (List Int)) : Nat → Option (List (List Int) × Int)
  | 0 => some (m, 1)
  | k + 1 => detStep k (detTo m k)
theorem detTo_none {m : List (List Int)} {k : Nat} (h : detTo m k = none) : ∀ j, k ≤ j → detTo m j = none := by
  intro j hj
  induction j with
  | zero => rwa [show k = 0 by omega] at h
  | succ j ih =>
    by_cases e : k = j + 1
    · rw [← e]; exact h
    · rw [detTo, ih (by omega)]; rfl
def detI (m : List (List Int)) : Int := match detTo m m.length with | none => 0 | some s => s.2
theorem detI_stop {m rows : List (List Int)} {d : Int} {k : Nat} (h : detTo m k = some (rows, d)) (hk : k < m.length) (hp : ¬ pivAt rows k k < rows.length) : detI m = 0 := by
  have h1 : detTo m (k + 1) = none := by rw [detTo, h]; simp only [detStep]; rw [if_neg hp]
  unfold detI
  rw [detTo_none h1 m.length (by omega)]
theorem detTo_go {m rows : List (List Int)} {d : Int} {k : Nat} (h : detTo m k = some (rows, d)) (hp : pivAt rows k k < rows.length) : detTo m (k + 1) = some (detRows rows k (pivAt rows k k), detD rows k (pivAt rows k k) d) := by
  rw [detTo, h]; simp only [detStep]; rw [if_pos hp]
theorem detI_end {m rows : List (List Int)} {d : Int} (h : detTo m m.length = some (rows, d)) : detI m = d := by
  unfold detI; rw [h]
def detM (m : List (List Int)) : Int := if validM m && decide (m.length = cols m) then detI m else 0
theorem detD_range (rows : List (List Int)) (k p : Nat) (d : Int) : 0 ≤ detD rows k p d ∧ detD rows k p d ≤ 1018 := by
  unfold detD
  exact ⟨Int.emod_nonneg _ (by omega), by have := Int.emod_lt_of_pos ((if p = k then d else (0 - d) % 1019) * ent (rows.getD p []) k) (show (0 : Int) < 1019 by omega); omega⟩

/-- The solution that reduced rows with n unknowns tell, from the first k rows; none where a row tells 0 = 1. -/
def solTo (x : List (List Int)) (n : Nat) : Nat → Option (List Int)
  | 0 => some (List.replicate n 0)
  | k + 1 => match solTo x n k with
    | none => none
    | some o => if ld (x.getD k []) = n then none else some (o.set (ld (x.getD k [])) (ent (x.getD k []) n))
theorem solTo_none {x : List (List Int)} {n k : Nat} (h : solTo x n k = none) : ∀ j, k ≤ j → solTo x n j = none := by
  intro j hj
  induction j with
  | zero => rwa [show k = 0 by omega] at h
  | succ j ih =>
    by_cases e : k = j + 1
    · rw [← e]; exact h
    · rw [solTo, ih (by omega)]
theorem solTo_len {x : List (List Int)} {n : Nat} : ∀ {k : Nat} {o : List Int}, solTo x n k = some o → o.length = n := by
  intro k
  induction k with
  | zero => intro o h; simp [solTo] at h; subst h; simp
  | succ k ih =>
    intro o h
    rw [solTo] at h
    cases hs : solTo x n k with
    | none => rw [hs] at h; cases h
    | some o' =>
      rw [hs] at h
      simp only [] at h
      split at h
      · cases h
      · injection h with h; subst h; rw [List.length_set]; exact ih hs
theorem solTo_go {x : List (List Int)} {n k : Nat} {o : List Int} (h : solTo x n k = some o) (hp : ld (x.getD k []) ≠ n) : solTo x n (k + 1) = some (o.set (ld (x.getD k [])) (ent (x.getD k []) n)) := by
  rw [solTo, h]; simp only []; rw [if_neg hp]
theorem solTo_stop {x : List (List Int)} {n k : Nat} {o : List Int} (h : solTo x n k = some o) (hk : k < x.length) (hp : ld (x.getD k []) = n) : solTo x n x.length = none := by
  have h1 : solTo x n (k + 1) = none := by rw [solTo, h]; simp only []; rw [if_pos hp]
  exact solTo_none h1 _ (by omega)
/-- A system's rows with their right sides. -/
def wideTo (m : List (List Int)) (b : List Int) (k : Nat) : List (List Int) := (List.range k).map fun i => m.getD i [] ++ [ent b i]
theorem wideTo_length (m : List (List Int)) (b : List Int) (k : Nat) : (wideTo m b k).length = k := by simp [wideTo]
theorem wideTo_succ (m : List (List Int)) (b : List Int) (k : Nat) : wideTo m b (k + 1) = wideTo m b k ++ [m.getD k [] ++ [ent b k]] := by simp [wideTo, List.range_succ]
theorem wideTo_VR {n : Nat} {m : List (List Int)} {b : List Int} (hn : n + 1 ≤ 40) (h : VR n m) (hb : AllEl b) : VR (n + 1) (wideTo m b m.length) := by
  refine VR.mk' hn fun i hi => ?_
  rw [wideTo_length] at hi
  have h1 := h.getD hi
  have e : (wideTo m b m.length).getD i [] = m.getD i [] ++ [ent b i] := by simp [wideTo, List.getD, hi]
  rw [e]
  refine ⟨fun x hx => ?_, by rw [List.length_append, h1.2.1]; rfl⟩
  rcases List.mem_append.1 hx with hx | hx
  · exact h1.1 x hx
  · simp at hx; subst hx; exact inR_true.2 (ent_range hb i)
def sysOk (m : List (List Int)) (b : List Int) : Bool := validM m && (validV b && (decide (b.length = m.length) && decide (cols m < 40)))
def solve (m : List (List Int)) (b : List Int) : Option (List Int) := if sysOk m b then solTo (gj (wideTo m b m.length) (cols m + 1)) (cols m) (gj (wideTo m b m.length) (cols m + 1)).length else none

end Go.Proofs.Ytkegknophppdgaa
