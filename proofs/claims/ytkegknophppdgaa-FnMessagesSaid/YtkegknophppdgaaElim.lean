/- Elimination over lists of numbers: the reference's form (column by column) and the program's form (row by row) reach the one reduced form. No program is named. -/
import Derived.Test.YtkegknophppdgaaLin
import Derived.Test.YtkegknophppdgaaPlain
namespace Go.Proofs.Ytkegknophppdgaa
set_option linter.unusedVariables false
set_option maxRecDepth 20000

def ent (v : List Int) (i : Nat) : Int := v.getD i 0
def vK (v : List Int) : Vec := fun j => toK (ent v j)
def mK (m : List (List Int)) : Nat → Vec := fun i => vK (m.getD i [])
def scl (xs : List Int) (k : Int) : List Int := xs.map (fun x => k * x % 1019)
theorem ent_some {v : List Int} {i : Nat} {x : Int} (h : v[i]? = some x) : ent v i = x := by simp [ent, List.getD, h]
theorem ent_out {v : List Int} {i : Nat} (h : v.length ≤ i) : ent v i = 0 := by simp [ent, List.getD, List.getElem?_eq_none h]
theorem ent_get {v : List Int} {i : Nat} (h : i < v.length) : v[i]? = some (ent v i) := by simp [ent, List.getD, h]
theorem ent_range {v : List Int} (h : AllEl v) (i : Nat) : 0 ≤ ent v i ∧ ent v i ≤ 1018 := by
  by_cases hi : i < v.length
  · exact h.get (ent_get hi)
  · rw [ent_out (by omega)]; omega
theorem vK_out {v : List Int} {i : Nat} (h : v.length ≤ i) : vK v i = 0 := by simp [vK, ent_out h, toK_zero]
theorem vK_zero {v : List Int} (h : AllEl v) (i : Nat) : vK v i = 0 ↔ ent v i = 0 := toK_eq_zero (ent_range h i).1 (ent_range h i).2
theorem vK_inj {v u : List Int} (hv : AllEl v) (hu : AllEl u) (hl : v.length = u.length) (h : ∀ j, vK v j = vK u j) : v = u := by
  apply List.ext_getElem?
  intro j
  by_cases hj : j < v.length
  · rw [ent_get hj, ent_get (by omega)]
    congr 1
    exact toK_inj (ent_range hv j).1 (ent_range hv j).2 (ent_range hu j).1 (ent_range hu j).2 (h j)
  · rw [List.getElem?_eq_none (by omega), List.getElem?_eq_none (by omega)]
theorem vK_addS {xs ys : List Int} (h : xs.length = ys.length) (k : Int) (j : Nat) : vK (addS xs ys k) j = vK xs j + toK k * vK ys j := by
  by_cases hj : j < xs.length
  · have e : (addS xs ys k)[j]? = some (fma (ent xs j) (ent ys j) k) := by
      simp [addS, List.getElem?_zipWith, ent_get hj, ent_get (show j < ys.length by omega)]
    unfold vK
    rw [ent_some e, fma, toK_mod, toK_add, toK_mul]
  · rw [vK_out (by rw [addS_len h]; omega), vK_out (by omega), vK_out (by omega)]; grind
theorem scl_length (xs : List Int) (k : Int) : (scl xs k).length = xs.length := by simp [scl]
theorem scl_AllEl (xs : List Int) (k : Int) : AllEl (scl xs k) := by
  intro z hz
  obtain ⟨x, _, rfl⟩ := List.mem_map.1 hz
  exact inR_true.2 ⟨Int.emod_nonneg _ (by omega), by have := Int.emod_lt_of_pos (k * x) (show (0 : Int) < 1019 by omega); omega⟩
theorem vK_scl (xs : List Int) (k : Int) (j : Nat) : vK (scl xs k) j = toK k * vK xs j := by
  by_cases hj : j < xs.length
  · have e : (scl xs k)[j]? = some (k * ent xs j % 1019) := by simp [scl, ent_get hj]
    unfold vK
    rw [ent_some e, toK_mod, toK_mul]
  · rw [vK_out (by rw [scl_length]; omega), vK_out (by omega)]; grind
/-- A row with a multiple of another taken off, so that column k gets 0 if the other has 1 there. -/
def el (r row : List Int) (k : Nat) : List Int := addS r row ((1019 - ent r k) % 1019)
theorem vK_el {r row : List Int} (h : r.length = row.length) (k j : Nat) : vK (el r row k) j = vK r j - vK r k * vK row j := by
  unfold el
  rw [vK_addS h, toK_mod, toK_sub, toK_p]
  show vK r j + (0 - vK r k) * vK row j = _
  grind
theorem el_length {r row : List Int} (h : r.length = row.length) (k : Nat) : (el r row k).length = r.length := addS_len h _
theorem el_AllEl (r row : List Int) (k : Nat) : AllEl (el r row k) := addS_AllEl _ _ _
theorem addS_zero {r row : List Int} (hr : AllEl r) (h : r.length = row.length) : addS r row 0 = r :=
  vK_inj (addS_AllEl _ _ _) hr (addS_len h _) (fun j => by rw [vK_addS h, toK_zero]; grind)
/-- What the programs do: nothing where the entry is 0. -/
theorem el_zero {r row : List Int} (hr : AllEl r) (h : r.length = row.length) {k : Nat} (h0 : ent r k = 0) : el r row k = r := by
  unfold el
  rw [h0]
  exact addS_zero hr h
theorem el_ne {r row : List Int} (hr : AllEl r) {k : Nat} (h0 : ent r k ≠ 0) : el r row k = addS r row (1019 - ent r k) := by
  unfold el
  have := ent_range hr k
  rw [Int.emod_eq_of_lt (by omega) (by omega)]

/-- The index of the first number that is not 0, or the length. -/
def ld (xs : List Int) : Nat := xs.findIdx (fun x => x != 0)
theorem ld_le (xs : List Int) : ld xs ≤ xs.length := List.findIdx_le_length
theorem ld_ne {xs : List Int} (h : ld xs < xs.length) : ent xs (ld xs) ≠ 0 := by
  have := List.findIdx_getElem (xs := xs) (p := fun x => x != 0) (w := h)
  rw [ent_some (List.getElem?_eq_getElem h)]
  unfold ld
  simpa using this
theorem ld_zero {xs : List Int} {j : Nat} (h : j < ld xs) : ent xs j = 0 := by
  have hj : j < xs.length := Nat.lt_of_lt_of_le h (ld_le xs)
  have := List.not_of_lt_findIdx h
  rw [ent_some (List.getElem?_eq_getElem hj)]
  simpa using this
theorem ld_eq {xs : List Int} {p : Nat} (h0 : ent xs p ≠ 0) (h : ∀ j, j < p → ent xs j = 0) : ld xs = p := by
  rcases Nat.lt_trichotomy (ld xs) p with hlt | heq | hgt
  · have hl : ld xs < xs.length := by
      rcases Nat.lt_or_ge p xs.length with h1 | h1
      · omega
      · exact absurd (ent_out h1) h0
    exact absurd (h _ hlt) (ld_ne hl)
  · exact heq
  · exact absurd (ld_zero hgt) h0
theorem leadI_ld (xs : List Int) : leadI xs = if ld xs < xs.length then (ld xs : Int) else -1 := by
  unfold leadI
  by_cases h : ld xs < xs.length
  · rw [if_pos h, if_neg]
    · rfl
    · intro hall
      have := ld_ne h
      have h2 := List.all_eq_true.1 hall _ (List.mem_of_getElem? (ent_get h))
      simp at h2
      exact this h2
  · rw [if_neg h, if_pos]
    rw [List.all_eq_true]
    intro x hx
    obtain ⟨i, hi, rfl⟩ := List.mem_iff_getElem.1 hx
    have : ent xs i = 0 := ld_zero (by have := ld_le xs; omega)
    rw [ent_some (List.getElem?_eq_getElem hi)] at this
    simp [this]
theorem ld_allzero {xs : List Int} (h : ¬ ld xs < xs.length) (j : Nat) : ent xs j = 0 := by
  by_cases hj : j < xs.length
  · exact ld_zero (by have := ld_le xs; omega)
  · exact ent_out (by omega)

theorem VR.getD {n : Nat} {m : List (List Int)} (h : VR n m) {i : Nat} (hi : i < m.length) : AllEl (m.getD i []) ∧ (m.getD i []).length = n ∧ (m.getD i []).length ≤ 40 := by
  have e : m[i]? = some (m.getD i []) := by simp [List.getD, hi]
  have := h.ok e
  exact ⟨this.1, this.2.2, this.2.1⟩
theorem VR.mk' {n : Nat} {m : List (List Int)} (hn : n ≤ 40) (h : ∀ i, i < m.length → AllEl (m.getD i []) ∧ (m.getD i []).length = n) : VR n m := by
  intro xs hx
  obtain ⟨i, hi, rfl⟩ := List.mem_iff_getElem.1 hx
  have := h i hi
  rw [show m.getD i [] = m[i] by simp [List.getD, hi]] at this
  exact ⟨validV_true.2 ⟨this.1, by omega⟩, this.2⟩
theorem getD_get {m : List (List Int)} {i : Nat} (hi : i < m.length) : m[i]? = some (m.getD i []) := by simp [List.getD, hi]
theorem getD_some {m : List (List Int)} {i : Nat} {r : List Int} (h : m[i]? = some r) : m.getD i [] = r := by simp [List.getD, h]

/-- Reduced rows of n numbers. -/
def RM (n : Nat) (m : List (List Int)) : Prop := VR n m ∧ Red m.length (mK m) (fun i => ld (m.getD i []))
theorem RM.nil (n : Nat) : RM n [] := ⟨fun _ h => by simp at h, ⟨fun i j _ h => by simp at h, fun i h => by simp at h, fun i h => by simp at h, fun i k h => by simp at h⟩⟩
theorem Red.to_ld {n : Nat} {m : List (List Int)} {P : Nat → Nat} (hv : VR n m) (h : Red m.length (mK m) P) : ∀ i, i < m.length → ld (m.getD i []) = P i := by
  intro i hi
  have hE := (hv.getD hi).1
  refine ld_eq ?_ (fun j hj => ?_)
  · rw [Ne, ← vK_zero hE]
    have := h.one i hi
    show ¬ mK m i (P i) = 0
    rw [this]; exact K_one_ne
  · rw [← vK_zero hE]
    exact h.zero i hi j hj
theorem Red.congrP {r : Nat} {R : Nat → Vec} {P Q : Nat → Nat} (h : Red r R P) (e : ∀ i, i < r → Q i = P i) : Red r R Q :=
  ⟨fun i j hij hj => by rw [e i (by omega), e j hj]; exact h.mono i j hij hj, fun i hi => by rw [e i hi]; exact h.one i hi, fun i hi j hj => h.zero i hi j (by rw [← e i hi]; exact hj),
   fun i k hi hk hne => by rw [e i hi]; exact h.other i k hi hk hne⟩
theorem RM.of {n : Nat} {m : List (List Int)} {P : Nat → Nat} (hv : VR n m) (h : Red m.length (mK m) P) : RM n m := ⟨hv, h.congrP (Red.to_ld hv h)⟩
theorem RM.eq {n : Nat} {a b : List (List Int)} (ha : RM n a) (hb : RM n b) (h : SameSp a.length (mK a) b.length (mK b)) : a = b := by
  obtain ⟨hl, hrow⟩ := ha.2.unique hb.2 h
  apply List.ext_getElem?
  intro i
  by_cases hi : i < a.length
  · rw [getD_get hi, getD_get (by omega)]
    congr 1
    have h1 := ha.1.getD hi
    have h2 := hb.1.getD (show i < b.length by omega)
    exact vK_inj h1.1 h2.1 (by omega) (hrow i hi).2
  · rw [List.getElem?_eq_none (by omega), List.getElem?_eq_none (by omega)]
theorem RM.ld_lt {n : Nat} {m : List (List Int)} (h : RM n m) {i : Nat} (hi : i < m.length) : ld (m.getD i []) < n := by
  have h1 := h.1.getD hi
  have h2 := h.2.one i hi
  rcases Nat.lt_or_ge (ld (m.getD i [])) n with hlt | hge
  · exact hlt
  · have : mK m i (ld (m.getD i [])) = 0 := vK_out (by omega)
    rw [this] at h2
    exact absurd h2.symm K_one_ne

/-- One column of the reference's elimination, in functions. -/
theorem gstep {m t k p : Nat} {R S : Nat → Vec} {c : K} {P : Nat → Nat} (ht : t ≤ p) (hp : p < m) (hc : c * R p k = 1)
    (hS : ∀ i, i < m → ∀ j, S i j = if i = t then c * R p j else (if i = p then R t j else R i j) - (if i = p then R t k else R i k) * (c * R p j))
    (pk : ∀ i, i < t → P i < k) (mono : ∀ i j, i < j → j < t → P i < P j) (one : ∀ i, i < t → R i (P i) = 1) (zero : ∀ i, i < t → ∀ j, j < P i → R i j = 0)
    (other : ∀ i l, i < t → l < m → l ≠ i → R l (P i) = 0) (rest : ∀ l, t ≤ l → l < m → ∀ j, j < k → R l j = 0) :
    (∀ i, i < t + 1 → (if i < t then P i else k) < k + 1) ∧ (∀ i j, i < j → j < t + 1 → (if i < t then P i else k) < (if j < t then P j else k)) ∧ (∀ i, i < t + 1 → S i (if i < t then P i else k) = 1)
    ∧ (∀ i, i < t + 1 → ∀ j, j < (if i < t then P i else k) → S i j = 0) ∧ (∀ i l, i < t + 1 → l < m → l ≠ i → S l (if i < t then P i else k) = 0) ∧ (∀ l, t + 1 ≤ l → l < m → ∀ j, j < k + 1 → S l j = 0) ∧ SameSp m R m S := by
  refine ⟨fun i hi => ?_, fun i j hij hj => ?_, fun i hi => ?_, fun i hi j hj => ?_, fun i l hi hl hne => ?_, fun l hl hlm j hj => ?_, ?_, ?_⟩
  · split
    · have := pk i ‹_›; omega
    · omega
  · by_cases hjt : j < t
    · rw [if_pos hjt, if_pos (by omega)]; exact mono i j hij hjt
    · rw [if_neg hjt, if_pos (by omega)]; exact pk i (by omega)
  · by_cases hit : i < t
    · rw [if_pos hit, hS i (by omega), if_neg (by omega), if_neg (by omega), if_neg (by omega), one i hit, other i p hit hp (by omega)]; grind
    · rw [if_neg hit, hS i (by omega), if_pos (by omega)]; exact hc
  · by_cases hit : i < t
    · rw [if_pos hit] at hj
      have h1 := pk i hit
      rw [hS i (by omega), if_neg (by omega), if_neg (by omega), if_neg (by omega), zero i hit j hj, rest p ht hp j (by omega)]; grind
    · rw [if_neg hit] at hj
      rw [hS i (by omega), if_pos (by omega), rest p ht hp j hj]; grind
  · by_cases hit : i < t
    · rw [if_pos hit, hS l hl]
      have e1 := other i p hit hp (by omega)
      rw [e1]
      by_cases hlt : l = t
      · rw [if_pos hlt]; grind
      · rw [if_neg hlt]
        by_cases hlp : l = p
        · rw [if_pos hlp, other i t hit (by omega) (by omega)]; grind
        · rw [if_neg hlp, other i l hit hl hne]; grind
    · have : i = t := by omega
      subst this
      rw [if_neg hit, hS l hl, if_neg hne, hc]; grind
  · rw [hS l hlm, if_neg (by omega)]
    by_cases hjk : j = k
    · subst hjk
      rw [hc]; grind
    · rw [rest p ht hp j (by omega)]
      by_cases hlp : l = p
      · rw [if_pos hlp, rest t (Nat.le_refl _) (by omega) j (by omega)]; grind
      · rw [if_neg hlp, rest l (by omega) hlm j (by omega)]; grind
  · -- every old row lies in the span of the new
    have hT : ∀ j, S t j = c * R p j := fun j => by rw [hS t (by omega), if_pos rfl]
    have hB : ∀ i, i < m → i ≠ t → InSp m S (fun j => if i = p then R t j else R i j) := fun i hi hne =>
      ((InSp.row S hi).add (InSp.row S (show t < m by omega)) (if i = p then R t k else R i k)).congr (fun j => by rw [hS i hi, if_neg hne, hT]; grind)
    have hP : InSp m S (R p) := ((InSp.row S (show t < m by omega)).mul (R p k)).congr (fun j => by rw [hT]; grind)
    intro i hi
    by_cases hip : i = p
    · subst hip; exact hP
    · by_cases hit : i = t
      · subst hit
        exact (hB p hp (by omega)).congr (fun j => by rw [if_pos rfl])
      · exact (hB i hi hit).congr (fun j => by rw [if_neg hip])
  · have hB : ∀ i, i < m → InSp m R (fun j => if i = p then R t j else R i j) := fun i hi => by
      by_cases hip : i = p
      · exact (InSp.row R (show t < m by omega)).congr (fun j => by rw [if_pos hip])
      · exact (InSp.row R hi).congr (fun j => by rw [if_neg hip])
    intro i hi
    by_cases hit : i = t
    · exact ((InSp.row R hp).mul c).congr (fun j => by rw [hS i hi, if_pos hit])
    · exact ((hB i hi).add (InSp.row R hp) (-((if i = p then R t k else R i k) * c))).congr (fun j => by rw [hS i hi, if_neg hit]; grind)

/-- The first row from t on that is not 0 in column k. -/
def pivAt (rows : List (List Int)) (k t : Nat) : Nat := t + (rows.drop t).findIdx (fun r => ent r k != 0)
theorem pivAt_eq {rows : List (List Int)} {k t p : Nat} (ht : t ≤ p) (hp : p ≤ rows.length) (hz : ∀ i, t ≤ i → i < p → ent (rows.getD i []) k = 0) (hn : p < rows.length → ent (rows.getD p []) k ≠ 0) : pivAt rows k t = p := by
  unfold pivAt
  suffices h : (rows.drop t).findIdx (fun r => ent r k != 0) = p - t by omega
  rcases Nat.lt_or_ge p rows.length with hlt | hge
  · rw [List.findIdx_eq (by simp; omega)]
    refine ⟨?_, fun j hj => ?_⟩
    · have := hn hlt
      rw [List.getElem_drop]
      have e : rows.getD p [] = rows[t + (p - t)]'(by omega) := by simp [List.getD, hlt, show t + (p - t) = p by omega]
      rw [← e]
      simpa using this
    · have := hz (t + j) (by omega) (by omega)
      rw [List.getElem_drop]
      rw [show rows.getD (t + j) [] = rows[t + j]'(by omega) by simp [List.getD, show t + j < rows.length by omega]] at this
      simpa using this
  · have hl : p - t = (rows.drop t).length := by simp; omega
    rw [hl, List.findIdx_eq_length]
    intro r hr
    obtain ⟨j, hj, rfl⟩ := List.mem_iff_getElem.1 hr
    simp at hj
    have := hz (t + j) (by omega) (by omega)
    rw [List.getElem_drop]
    rw [show rows.getD (t + j) [] = rows[t + j]'(by omega) by simp [List.getD, show t + j < rows.length by omega]] at this
    simpa using this
theorem pivAt_spec {rows : List (List Int)} {k t : Nat} (ht : t ≤ rows.length) : t ≤ pivAt rows k t ∧ pivAt rows k t ≤ rows.length ∧ (∀ i, t ≤ i → i < pivAt rows k t → ent (rows.getD i []) k = 0) ∧ (pivAt rows k t < rows.length → ent (rows.getD (pivAt rows k t) []) k ≠ 0) := by
  by_cases h : ∃ i, i < rows.length ∧ (t ≤ i ∧ ent (rows.getD i []) k ≠ 0)
  · obtain ⟨p, hp, ⟨h1, h2⟩, h3⟩ := least h
    have hz : ∀ i, t ≤ i → i < p → ent (rows.getD i []) k = 0 := fun i hi hip => Classical.byContradiction fun hne => h3 i hip ⟨hi, hne⟩
    rw [pivAt_eq h1 (by omega) hz (fun _ => h2)]
    exact ⟨h1, by omega, hz, fun _ => h2⟩
  · have hz : ∀ i, t ≤ i → i < rows.length → ent (rows.getD i []) k = 0 := fun i hi hip => Classical.byContradiction fun hne => h ⟨i, hip, hi, hne⟩
    rw [pivAt_eq ht (Nat.le_refl _) hz (fun h => absurd h (Nat.lt_irrefl _))]
    exact ⟨ht, Nat.le_refl _, hz, fun h => absurd h (Nat.lt_irrefl _)⟩

def leadRow (rows : List (List Int)) (k p : Nat) : List Int := scl (rows.getD p []) (invI (ent (rows.getD p []) k))
def swapIn (rows : List (List Int)) (k t p : Nat) : List (List Int) := (rows.set p (rows.getD t [])).set t (leadRow rows k p)
/-- The first i rows are cleared in column k. -/
def clearTo (rows : List (List Int)) (row : List Int) (k t i : Nat) : List (List Int) := rows.mapIdx fun j r => if j = t then r else if j < i then el r row k else r
def gjRows (rows : List (List Int)) (k t p : Nat) : List (List Int) := clearTo (swapIn rows k t p) (leadRow rows k p) k t rows.length
def gjStep (k : Nat) (s : List (List Int) × Nat) : List (List Int) × Nat :=
  if s.2 < s.1.length then (if pivAt s.1 k s.2 < s.1.length then (gjRows s.1 k s.2 (pivAt s.1 k s.2), s.2 + 1) else s) else s
def gjTo (m : List (List Int)) : Nat → List (List Int) × Nat
  | 0 => (m, 0)
  | k + 1 => gjStep k (gjTo m k)
/-- The reference's reduced form, of the first n columns. -/
def gj (m : List (List Int)) (n : Nat) : List (List Int) := (gjTo m n).1.take (gjTo m n).2

theorem swapIn_length (rows : List (List Int)) (k t p : Nat) : (swapIn rows k t p).length = rows.length := by simp [swapIn]
theorem swapIn_getD {rows : List (List Int)} {k t p i : Nat} (ht : t < rows.length) (hp : p < rows.length) : (swapIn rows k t p).getD i [] = if i = t then leadRow rows k p else if i = p then rows.getD t [] else rows.getD i [] := by
  unfold swapIn
  simp only [List.getD_eq_getElem?_getD, List.getElem?_set, List.length_set]
  by_cases h1 : t = i
  · subst h1; simp [ht]
  · by_cases h2 : p = i
    · subst h2
      rw [if_neg (show ¬ p = t from fun e => h1 e.symm)]
      simp [hp, h1]
    · rw [if_neg (show ¬ i = t from fun e => h1 e.symm), if_neg (show ¬ i = p from fun e => h2 e.symm)]
      simp [h1, h2]
theorem clearTo_length (rows : List (List Int)) (row : List Int) (k t i : Nat) : (clearTo rows row k t i).length = rows.length := by simp [clearTo]
theorem clearTo_getD {rows : List (List Int)} {row : List Int} {k t i j : Nat} (hj : j < rows.length) : (clearTo rows row k t i).getD j [] = if j = t then rows.getD j [] else if j < i then el (rows.getD j []) row k else rows.getD j [] := by
  unfold clearTo
  simp only [List.getD_eq_getElem?_getD, List.getElem?_mapIdx, List.getElem?_eq_getElem hj, Option.map_some, Option.getD_some]
theorem clearTo_zero (rows : List (List Int)) (row : List Int) (k t : Nat) : clearTo rows row k t 0 = rows := by
  apply List.ext_getElem?
  intro j
  simp [clearTo, List.getElem?_mapIdx]
theorem clearTo_succ {rows : List (List Int)} {row : List Int} {k t i : Nat} (hi : i < rows.length) : clearTo rows row k t (i + 1) = (clearTo rows row k t i).set i (if i = t then rows.getD i [] else el (rows.getD i []) row k) := by
  apply List.ext_getElem?
  intro j
  rw [List.getElem?_set]
  by_cases hij : i = j
  · subst hij
    rw [if_pos rfl, if_pos (by rw [clearTo_length]; exact hi), getD_get (by rw [clearTo_length]; exact hi), clearTo_getD hi, if_pos (Nat.lt_succ_self i)]
  · rw [if_neg hij]
    by_cases hj : j < rows.length
    · rw [getD_get (by rw [clearTo_length]; exact hj), getD_get (by rw [clearTo_length]; exact hj), clearTo_getD hj, clearTo_getD hj]
      congr 1
      by_cases hjt : j = t
      · rw [if_pos hjt, if_pos hjt]
      · rw [if_neg hjt, if_neg hjt]
        by_cases hji : j < i
        · rw [if_pos hji, if_pos (by omega)]
        · rw [if_neg hji, if_neg (by omega)]
    · rw [List.getElem?_eq_none (by rw [clearTo_length]; omega), List.getElem?_eq_none (by rw [clearTo_length]; omega)]
theorem leadRow_length (rows : List (List Int)) (k p : Nat) : (leadRow rows k p).length = (rows.getD p []).length := scl_length _ _
theorem swapIn_VR {n : Nat} {rows : List (List Int)} {k t p : Nat} (hn : n ≤ 40) (h : VR n rows) (ht : t < rows.length) (hp : p < rows.length) : VR n (swapIn rows k t p) := by
  refine VR.mk' hn (fun i hi => ?_)
  rw [swapIn_length] at hi
  rw [swapIn_getD ht hp]
  have h1 := h.getD ht
  have h2 := h.getD hi
  have h3 := h.getD hp
  split
  · exact ⟨scl_AllEl _ _, by rw [leadRow_length]; exact h3.2.1⟩
  · split
    · exact ⟨h1.1, h1.2.1⟩
    · exact ⟨h2.1, h2.2.1⟩
theorem clearTo_VR {n : Nat} {rows : List (List Int)} {row : List Int} {k t i : Nat} (hn : n ≤ 40) (h : VR n rows) (hr : row.length = n) : VR n (clearTo rows row k t i) := by
  refine VR.mk' hn (fun j hj => ?_)
  rw [clearTo_length] at hj
  rw [clearTo_getD hj]
  have h2 := h.getD hj
  split
  · exact ⟨h2.1, h2.2.1⟩
  · split
    · exact ⟨el_AllEl _ _ _, by rw [el_length (by omega)]; exact h2.2.1⟩
    · exact ⟨h2.1, h2.2.1⟩

/-- What holds after k columns. -/
structure GInv (n : Nat) (m : List (List Int)) (k : Nat) (s : List (List Int) × Nat) (P : Nat → Nat) : Prop where
  vr : VR n s.1
  len : s.1.length = m.length
  le : s.2 ≤ s.1.length
  lek : s.2 ≤ k
  pk : ∀ i, i < s.2 → P i < k
  mono : ∀ i j, i < j → j < s.2 → P i < P j
  one : ∀ i, i < s.2 → mK s.1 i (P i) = 1
  zero : ∀ i, i < s.2 → ∀ j, j < P i → mK s.1 i j = 0
  other : ∀ i l, i < s.2 → l < s.1.length → l ≠ i → mK s.1 l (P i) = 0
  rest : ∀ l, s.2 ≤ l → l < s.1.length → ∀ j, j < k → mK s.1 l j = 0
  sp : SameSp m.length (mK m) s.1.length (mK s.1)

theorem GInv.step {n : Nat} {m : List (List Int)} {k : Nat} {s : List (List Int) × Nat} {P : Nat → Nat} (hn : n ≤ 40) (h : GInv n m k s P) : ∃ P', GInv n m (k + 1) (gjStep k s) P' := by
  have hsame : (∀ l, s.2 ≤ l → l < s.1.length → mK s.1 l k = 0) → GInv n m (k + 1) s P := fun hz =>
    ⟨h.vr, h.len, h.le, by have := h.lek; omega, fun i hi => by have := h.pk i hi; omega, h.mono, h.one, h.zero, h.other, fun l h1 h2 j hj => by
      by_cases e : j = k
      · subst e; exact hz l h1 h2
      · exact h.rest l h1 h2 j (by omega), h.sp⟩
  unfold gjStep
  by_cases ht : s.2 < s.1.length
  · rw [if_pos ht]
    obtain ⟨p1, p2, p3, p4⟩ := pivAt_spec (rows := s.1) (k := k) (t := s.2) h.le
    generalize pivAt s.1 k s.2 = p at *
    by_cases hp : p < s.1.length
    · rw [if_pos hp]
      have hv := h.vr.getD hp
      have hne := p4 hp
      have hr := ent_range hv.1 k
      have hc : toK (invI (ent (s.1.getD p []) k)) * mK s.1 p k = 1 := by
        rw [← invI_K hr.1 hr.2 hne]
        show _ * toK (ent (s.1.getD p []) k) = _
        grind
      have hlr : (leadRow s.1 k p).length = n := by rw [leadRow_length]; exact hv.2.1
      have hlK : ∀ j, vK (leadRow s.1 k p) j = toK (invI (ent (s.1.getD p []) k)) * mK s.1 p j := fun j => vK_scl _ _ j
      have hsw := swapIn_VR (k := k) hn h.vr ht hp
      have hS : ∀ i, i < s.1.length → ∀ j, mK (gjRows s.1 k s.2 p) i j = if i = s.2 then toK (invI (ent (s.1.getD p []) k)) * mK s.1 p j else (if i = p then mK s.1 s.2 j else mK s.1 i j) - (if i = p then mK s.1 s.2 k else mK s.1 i k) * (toK (invI (ent (s.1.getD p []) k)) * mK s.1 p j) := by
        intro i hi j
        have e : (gjRows s.1 k s.2 p).getD i [] = if i = s.2 then leadRow s.1 k p else el (if i = p then s.1.getD s.2 [] else s.1.getD i []) (leadRow s.1 k p) k := by
          unfold gjRows
          rw [clearTo_getD (by rw [swapIn_length]; exact hi), swapIn_getD ht hp]
          by_cases h1 : i = s.2
          · rw [if_pos h1, if_pos h1, if_pos h1]
          · rw [if_neg h1, if_neg h1, if_neg h1, if_pos hi]
        show vK ((gjRows s.1 k s.2 p).getD i []) j = _
        rw [e]
        by_cases h1 : i = s.2
        · rw [if_pos h1, if_pos h1]; exact hlK j
        · rw [if_neg h1, if_neg h1]
          by_cases h2 : i = p
          · rw [if_pos h2, if_pos h2, if_pos h2, vK_el (by rw [hlr]; exact (h.vr.getD ht).2.1), hlK]; rfl
          · rw [if_neg h2, if_neg h2, if_neg h2, vK_el (by rw [hlr]; exact (h.vr.getD hi).2.1), hlK]; rfl
      obtain ⟨q1, q2, q3, q4, q5, q6, q7⟩ := gstep p1 hp hc hS h.pk h.mono h.one h.zero h.other h.rest
      have hlen : (gjRows s.1 k s.2 p).length = s.1.length := by unfold gjRows; rw [clearTo_length, swapIn_length]
      refine ⟨_, ⟨clearTo_VR hn hsw hlr, ?_, ?_, ?_, q1, q2, q3, q4, ?_, ?_, ?_⟩⟩
      · show (gjRows s.1 k s.2 p).length = _
        rw [hlen]; exact h.len
      · show s.2 + 1 ≤ (gjRows s.1 k s.2 p).length
        rw [hlen]; omega
      · show s.2 + 1 ≤ k + 1
        have := h.lek; omega
      · intro i l h1 h2 h3
        exact q5 i l h1 (by rw [← hlen]; exact h2) h3
      · intro l h1 h2 j hj
        exact q6 l h1 (by rw [← hlen]; exact h2) j hj
      · have := h.sp.trans q7
        show SameSp m.length (mK m) (gjRows s.1 k s.2 p).length (mK (gjRows s.1 k s.2 p))
        rw [hlen]; exact this
    · rw [if_neg hp]
      exact ⟨P, hsame (fun l h1 h2 => (vK_zero (h.vr.getD h2).1 k).2 (p3 l h1 (by omega)))⟩
  · rw [if_neg ht]
    exact ⟨P, hsame (fun l h1 h2 => by omega)⟩
theorem gj_inv {n : Nat} {m : List (List Int)} (hn : n ≤ 40) (h : VR n m) : ∀ k, ∃ P, GInv n m k (gjTo m k) P := by
  intro k
  induction k with
  | zero => exact ⟨fun _ => 0, h, rfl, Nat.zero_le _, Nat.le_refl _, fun i hi => absurd hi (Nat.not_lt_zero _), fun i j _ hj => absurd hj (Nat.not_lt_zero _), fun i hi => absurd hi (Nat.not_lt_zero _), fun i hi => absurd hi (Nat.not_lt_zero _), fun i l hi => absurd hi (Nat.not_lt_zero _), fun l _ _ j hj => absurd hj (Nat.not_lt_zero _), SameSp.refl _ _⟩
  | succ k ih =>
    obtain ⟨P, hP⟩ := ih
    exact hP.step hn
theorem mK_take {m : List (List Int)} {t i : Nat} (hi : i < t) : mK (m.take t) i = mK m i := by
  unfold mK
  simp [List.getD_eq_getElem?_getD, hi]
/-- The kept rows are reduced; where all columns were taken, they span what the rows span. -/
theorem gj_red {n k : Nat} {m : List (List Int)} (hn : n ≤ 40) (h : VR n m) : RM n (gj m k) ∧ (gj m k).length ≤ m.length ∧ (n ≤ k → SameSp m.length (mK m) (gj m k).length (mK (gj m k))) := by
  obtain ⟨P, hP⟩ := gj_inv hn h k
  have hl : (gj m k).length = (gjTo m k).2 := by unfold gj; rw [List.length_take]; have := hP.le; omega
  have hv : VR n (gj m k) := fun xs hx => hP.vr xs (List.mem_of_mem_take hx)
  have hK : ∀ i, i < (gjTo m k).2 → mK (gj m k) i = mK (gjTo m k).1 i := fun i hi => mK_take hi
  refine ⟨RM.of hv (P := P) ?_, by rw [hl]; have := hP.le; have := hP.len; omega, fun hk => hP.sp.trans ?_⟩
  · rw [hl]
    exact ⟨hP.mono, fun i hi => by rw [hK i hi]; exact hP.one i hi, fun i hi j hj => by rw [hK i hi]; exact hP.zero i hi j hj, fun i l hi hl hne => by rw [hK l hl]; exact hP.other i l hi (by have := hP.le; omega) hne⟩
  · rw [hl]
    constructor
    · intro i hi
      by_cases h1 : i < (gjTo m k).2
      · exact (InSp.row _ h1).congr (fun j => by rw [hK i h1])
      · refine (InSp.zero _ _).congr (fun j => ?_)
        by_cases hj : j < k
        · exact hP.rest i (by omega) hi j hj
        · exact vK_out (by have := (hP.vr.getD hi).2.1; omega)
    · intro i hi
      exact (InSp.row _ (show i < (gjTo m k).1.length by have := hP.le; omega)).congr (fun j => by rw [hK i hi])

end Go.Proofs.Ytkegknophppdgaa
