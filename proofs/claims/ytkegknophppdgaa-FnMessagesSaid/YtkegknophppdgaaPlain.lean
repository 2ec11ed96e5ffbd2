/- Plain functions over lists of numbers that the programs compute: ranges, valid vectors, leading index, sums of vectors. No program is named. -/
import Derived.WalkKit
namespace Go.Proofs.Ytkegknophppdgaa
set_option linter.unusedVariables false
set_option maxRecDepth 20000

def inR (n lo hi : Int) : Bool := decide (lo ≤ n) && decide (n ≤ hi)
theorem inR_true {n lo hi : Int} : inR n lo hi = true ↔ lo ≤ n ∧ n ≤ hi := by simp [inR]
theorem inR_false {n lo hi : Int} : inR n lo hi = false ↔ n < lo ∨ hi < n := by simp [inR]; omega

/-- Every number is an element of the field. -/
def AllEl (xs : List Int) : Prop := ∀ x ∈ xs, inR x 0 1018 = true
def validV (xs : List Int) : Bool := xs.all (fun x => inR x 0 1018) && decide (xs.length ≤ 40)
theorem validV_true {xs : List Int} : validV xs = true ↔ AllEl xs ∧ xs.length ≤ 40 := by simp [validV, AllEl]
theorem AllEl.snoc {xs : List Int} {k : Nat} {x : Int} (h : AllEl (xs.take k)) (hx : xs[k]? = some x) (h1 : inR x 0 1018 = true) : AllEl (xs.take (k + 1)) := by
  rw [List.take_add_one, hx]
  intro y hy
  simp at hy
  rcases hy with hy | rfl
  · exact h y hy
  · exact h1
theorem AllEl.no {xs : List Int} {k : Nat} {x : Int} (hx : xs[k]? = some x) (h1 : inR x 0 1018 = false) : validV xs = false := by
  cases h : validV xs
  · rfl
  · have := (validV_true.1 h).1 x (List.mem_of_getElem? hx)
    rw [h1] at this
    cases this
theorem AllEl.len {xs : List Int} (h : AllEl xs) : validV xs = decide (xs.length ≤ 40) := by
  by_cases hl : xs.length ≤ 40
  · rw [validV_true.2 ⟨h, hl⟩, decide_eq_true hl]
  · rw [decide_eq_false hl]
    cases hv : validV xs
    · rfl
    · exact absurd (validV_true.1 hv).2 hl

/-- The index of the first number that is not 0, or -1. -/
def leadI (xs : List Int) : Int := if xs.all (fun x => x == 0) then -1 else (xs.findIdx (fun x => x != 0) : Nat)
def AllZ (xs : List Int) : Prop := ∀ x ∈ xs, x = 0
theorem AllZ.snoc {xs : List Int} {k : Nat} {x : Int} (h : AllZ (xs.take k)) (hx : xs[k]? = some x) (h1 : (x != 0) = false) : AllZ (xs.take (k + 1)) := by
  rw [List.take_add_one, hx]
  intro y hy
  simp at hy h1
  rcases hy with hy | rfl
  · exact h y hy
  · exact h1
theorem AllZ.lead {xs : List Int} (h : AllZ xs) : leadI xs = -1 := by
  unfold leadI
  rw [if_pos]
  simpa [AllZ] using h
theorem AllZ.at_ {xs : List Int} {k : Nat} {x : Int} (h : AllZ (xs.take k)) (hx : xs[k]? = some x) (h1 : (x != 0) = true) : leadI xs = k := by
  have hk := (List.getElem?_eq_some_iff.1 hx)
  obtain ⟨hk, hxx⟩ := hk
  have hne : x ≠ 0 := by simpa using h1
  have hf : xs.findIdx (fun x => x != 0) = k := by
    rw [List.findIdx_eq hk]
    refine ⟨by simp [hxx, hne], fun j hj => ?_⟩
    have := h (xs[j]'(by omega)) (List.mem_iff_getElem.2 ⟨j, by simp; omega, by simp⟩)
    simp [this]
  unfold leadI
  rw [if_neg, hf]
  intro hall
  have := List.all_eq_true.1 hall x (List.mem_of_getElem? hx)
  simp at this
  exact hne this

def cols (xss : List (List Int)) : Nat := (xss.headD []).length

/-- Rows that are vectors of n elements. -/
def VR (n : Nat) (xss : List (List Int)) : Prop := ∀ xs ∈ xss, validV xs = true ∧ xs.length = n
def vrows (xss : List (List Int)) : Bool := xss.all fun xs => validV xs && decide (xs.length = cols xss)
theorem vrows_true {xss : List (List Int)} : vrows xss = true ↔ VR (cols xss) xss := by simp [vrows, VR]
theorem VR.snoc {n k : Nat} {xss : List (List Int)} {xs : List Int} (h : VR n (xss.take k)) (hx : xss[k]? = some xs) (h1 : validV xs = true) (h2 : xs.length = n) : VR n (xss.take (k + 1)) := by
  intro y hy
  rw [List.take_add_one, hx] at hy
  rcases List.mem_append.1 hy with hy | hy
  · exact h y hy
  · simp at hy; subst hy; exact ⟨h1, h2⟩
theorem vrows_no {k : Nat} {xss : List (List Int)} {xs : List Int} (hx : xss[k]? = some xs) (h1 : validV xs = false ∨ ¬ xs.length = cols xss) : vrows xss = false := by
  cases hv : vrows xss
  · rfl
  · have := vrows_true.1 hv xs (List.mem_of_getElem? hx)
    rcases h1 with h1 | h1
    · rw [h1] at this; simp at this
    · exact absurd this.2 h1
def validM (xss : List (List Int)) : Bool := vrows xss && decide (xss.length ≤ 40)
def validG (n : Int) (xss : List (List Int)) : Bool := inR n 0 1000000000000 && (inR xss.length 1 8 && (vrows xss && inR (cols xss) 1 16))

def fma (x y k : Int) : Int := (x + k * y) % 1019
theorem fma_range (x y k : Int) : 0 ≤ fma x y k ∧ fma x y k ≤ 1018 := by
  have h1 : 0 ≤ (x + k * y) % 1019 := Int.emod_nonneg _ (by omega)
  have h2 : (x + k * y) % 1019 < 1019 := Int.emod_lt_of_pos _ (by omega)
  unfold fma
  omega
theorem mul_el {k y : Int} (h1 : 0 ≤ k) (h2 : k ≤ 1018) (h3 : 0 ≤ y) (h4 : y ≤ 1018) : 0 ≤ k * y ∧ k * y ≤ 1036324 := by
  refine ⟨Int.mul_nonneg h1 h3, ?_⟩
  calc k * y ≤ 1018 * 1018 := Int.mul_le_mul h2 h4 h3 (by omega)
    _ = 1036324 := by omega
def addS (xs ys : List Int) (k : Int) : List Int := List.zipWith (fun x y => fma x y k) xs ys
theorem addS_length (xs ys : List Int) (k : Int) : (addS xs ys k).length = min xs.length ys.length := by simp [addS]
theorem addS_len {xs ys : List Int} (h : xs.length = ys.length) (k : Int) : (addS xs ys k).length = xs.length := by rw [addS_length]; omega
theorem addS_AllEl (xs ys : List Int) (k : Int) : AllEl (addS xs ys k) := by
  intro z hz
  unfold addS at hz
  obtain ⟨i, hi, hz⟩ := List.mem_iff_getElem.1 hz
  simp at hz
  rw [← hz]
  exact inR_true.2 (fma_range _ _ _)
theorem AllEl.get {xs : List Int} (h : AllEl xs) {k : Nat} {x : Int} (hx : xs[k]? = some x) : 0 ≤ x ∧ x ≤ 1018 := inR_true.1 (h x (List.mem_of_getElem? hx))
theorem addS_take {xs ys : List Int} {k : Int} {j : Nat} {x y : Int} (hx : xs[j]? = some x) (hy : ys[j]? = some y) :
    (addS xs ys k).take (j + 1) = (addS xs ys k).take j ++ [fma x y k] := by
  rw [List.take_add_one]
  congr 1
  simp [addS, List.getElem?_zipWith, hx, hy]
theorem add_set {xs ys : List Int} {k : Int} {j : Nat} {x y : Int} (hl : xs.length = ys.length) (hx : xs[j]? = some x) (hy : ys[j]? = some y) :
    ((addS xs ys k).take j ++ xs.drop j).set j (fma x y k) = (addS xs ys k).take (j + 1) ++ xs.drop (j + 1) := by
  have hj : j < xs.length := (List.getElem?_eq_some_iff.1 hx).1
  have ht : ((addS xs ys k).take j).length = j := by rw [List.length_take, addS_len hl]; omega
  rw [List.set_append_right _ _ (by omega), ht, Nat.sub_self, List.drop_eq_getElem_cons hj, List.set_cons_zero, addS_take hx hy, List.append_assoc]
  rfl
theorem add_get {xs ys : List Int} {k : Int} {j : Nat} {x : Int} (hl : xs.length = ys.length) (hx : xs[j]? = some x) :
    ((addS xs ys k).take j ++ xs.drop j)[j]? = some x := by
  have hj : j < xs.length := (List.getElem?_eq_some_iff.1 hx).1
  have ht : ((addS xs ys k).take j).length = j := by rw [List.length_take, addS_len hl]; omega
  rw [List.getElem?_append_right (by omega), ht, Nat.sub_self, List.getElem?_drop]
  simpa using hx

/-- The combination of the first j rows. -/
def cmbTo (n : Nat) (xss : List (List Int)) (cs : List Int) (j : Nat) : List Int := ((xss.zip cs).take j).foldl (fun acc p => addS acc p.1 p.2) (List.replicate n 0)
theorem cmbTo_zero (n : Nat) (xss : List (List Int)) (cs : List Int) : cmbTo n xss cs 0 = List.replicate n 0 := rfl
theorem cmbTo_succ {n j : Nat} {xss : List (List Int)} {cs : List Int} {xs : List Int} {k : Int} (hx : xss[j]? = some xs) (hk : cs[j]? = some k) : cmbTo n xss cs (j + 1) = addS (cmbTo n xss cs j) xs k := by
  have hz : (xss.zip cs)[j]? = some (xs, k) := by simp [List.getElem?_zip_eq_some, hx, hk]
  unfold cmbTo
  rw [List.take_add_one, hz, List.foldl_append]
  rfl
theorem cmbTo_len {n : Nat} {xss : List (List Int)} (cs : List Int) (h : VR n xss) (hl : xss.length = cs.length) : ∀ j, (cmbTo n xss cs j).length = n := by
  intro j
  induction j with
  | zero => simp [cmbTo_zero]
  | succ j ih =>
    by_cases hj : j < xss.length
    · rw [cmbTo_succ (List.getElem?_eq_getElem hj) (List.getElem?_eq_getElem (by omega)), addS_length, ih, (h _ (List.getElem_mem hj)).2, Nat.min_self]
    · have : cmbTo n xss cs (j + 1) = cmbTo n xss cs j := by
        unfold cmbTo
        rw [List.take_of_length_le (by simp; omega), List.take_of_length_le (by simp; omega)]
      rw [this, ih]
theorem cmbTo_AllEl (n : Nat) (xss : List (List Int)) (cs : List Int) (j : Nat) : AllEl (cmbTo n xss cs j) := by
  have key : ∀ (l : List (List Int × Int)) (acc : List Int), AllEl acc → AllEl (l.foldl (fun acc p => addS acc p.1 p.2) acc) := by
    intro l
    induction l with
    | nil => intro acc h; exact h
    | cons p r ih => intro acc _; exact ih _ (addS_AllEl _ _ _)
  exact key _ _ (fun x hx => by rw [List.eq_of_mem_replicate hx]; rfl)
def comb (xss : List (List Int)) (cs : List Int) : List Int :=
  if decide (xss.length = 0) || (decide (¬ xss.length = cs.length) || (!validV cs || !vrows xss)) then [] else cmbTo (cols xss) xss cs xss.length
theorem VR.ok {n : Nat} {xss : List (List Int)} (h : VR n xss) {j : Nat} {xs : List Int} (hx : xss[j]? = some xs) : AllEl xs ∧ xs.length ≤ 40 ∧ xs.length = n := by
  obtain ⟨h1, h2⟩ := h xs (List.mem_of_getElem? hx)
  obtain ⟨h3, h4⟩ := validV_true.1 h1
  exact ⟨h3, h4, h2⟩

end Go.Proofs.Ytkegknophppdgaa
