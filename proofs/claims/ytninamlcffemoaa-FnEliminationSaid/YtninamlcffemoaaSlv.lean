/- Linear systems, plain: a solution that is found solves; whatever has a solution is solved. No program is named but through the plain functions. -/
import Derived.Test.YtninamlcffemoaaSys
import Derived.Test.YtninamlcffemoaaDot
namespace Go.Proofs.Ytninamlcffemoaa
open Go.RowKit
set_option linter.unusedVariables false
set_option maxRecDepth 20000

theorem sumN_mulR (n : Nat) (k : K) (f : Nat → K) : sumN n (fun i => f i * k) = sumN n f * k := by
  rw [show (fun i => f i * k) = (fun i => k * f i) from funext fun i => by grind, sumN_mul]
  grind
theorem wideTo_getD {m : List (List Int)} {b : List Int} {k i : Nat} (hi : i < k) : (wideTo m b k).getD i [] = m.getD i [] ++ [ent b i] := by
  unfold wideTo
  rw [List.getD_eq_getElem?_getD]
  simp [hi]
theorem ent_snoc (a : List Int) (x : Int) (j : Nat) : ent (a ++ [x]) j = if j < a.length then ent a j else if j = a.length then x else 0 := by
  unfold ent
  rw [List.getD_eq_getElem?_getD, List.getD_eq_getElem?_getD]
  split
  · rw [List.getElem?_append_left ‹_›]
  · split
    · rename_i h
      subst h
      simp
    · rw [List.getElem?_eq_none (by simp; omega)]
      rfl
theorem mK_wide {n : Nat} {m : List (List Int)} {b : List Int} (h : VR n m) {i j : Nat} (hi : i < m.length) : mK (wideTo m b m.length) i j = if j < n then mK m i j else if j = n then vK b i else 0 := by
  obtain ⟨h1, h2, _⟩ := h.getD hi
  show toK (ent ((wideTo m b m.length).getD i []) j) = _
  rw [wideTo_getD hi, ent_snoc, h2]
  split
  · rfl
  · split
    · rfl
    · exact toK_zero
/-- What the loop over the reduced rows leaves. -/
theorem solTo_spec {n : Nat} {x : List (List Int)} (h : RM (n + 1) x) : ∀ (k : Nat) (o : List Int), k ≤ x.length → solTo x n k = some o →
    (∀ i, i < k → ld (x.getD i []) < n ∧ ent o (ld (x.getD i [])) = ent (x.getD i []) n) ∧ (∀ j, (∀ i, i < k → ld (x.getD i []) ≠ j) → ent o j = 0) := by
  intro k
  induction k with
  | zero =>
    intro o _ ho
    unfold solTo at ho
    injection ho with ho
    subst ho
    refine ⟨fun i hi => by omega, fun j _ => ?_⟩
    unfold ent
    rw [List.getD_eq_getElem?_getD, List.getElem?_replicate]
    split <;> rfl
  | succ k ih =>
    intro o hk ho
    cases hs : solTo x n k with
    | none => rw [solTo_none hs (k + 1) (by omega)] at ho; cases ho
    | some o' =>
      obtain ⟨i1, i2⟩ := ih o' (by omega) hs
      by_cases hn : ld (x.getD k []) = n
      · have h' : solTo x n (k + 1) = none := by
          show (match solTo x n k with | none => none | some o => if ld (x.getD k []) = n then none else some (o.set (ld (x.getD k [])) (ent (x.getD k []) n))) = none
          rw [hs]
          exact if_pos hn
        rw [h'] at ho
        cases ho
      · rw [solTo_go hs hn] at ho
        injection ho with ho
        subst ho
        have hlt := h.ld_lt (show k < x.length by omega)
        have hl := solTo_len hs
        have hne : ∀ i, i < k → ld (x.getD i []) ≠ ld (x.getD k []) := fun i hi => by have := h.2.mono i k hi (by omega); omega
        have eset : ∀ j, ent (o'.set (ld (x.getD k [])) (ent (x.getD k []) n)) j = if j = ld (x.getD k []) then ent (x.getD k []) n else ent o' j := fun j => by
          unfold ent
          rw [List.getD_eq_getElem?_getD, List.getElem?_set]
          by_cases e : ld (x.getD k []) = j
          · rw [if_pos e, if_pos e.symm, if_pos (by omega)]
            rfl
          · rw [if_neg e, if_neg (fun h => e h.symm), List.getD_eq_getElem?_getD]
        refine ⟨fun i hi => ?_, fun j hj => ?_⟩
        · by_cases e : i = k
          · subst e
            exact ⟨by omega, by rw [eset, if_pos rfl]⟩
          · have := i1 i (by omega)
            exact ⟨this.1, by rw [eset, if_neg (hne i (by omega)), this.2]⟩
        · rw [eset, if_neg (fun e => hj k (by omega) e.symm)]
          exact i2 j (fun i hi => hj i (by omega))
theorem solTo_fail {n : Nat} {x : List (List Int)} : ∀ (k : Nat), solTo x n k = none → ∃ i, i < k ∧ ld (x.getD i []) = n := by
  intro k
  induction k with
  | zero => intro h; cases h
  | succ k ih =>
    intro h
    cases hs : solTo x n k with
    | none => obtain ⟨i, hi, he⟩ := ih hs; exact ⟨i, by omega, he⟩
    | some o =>
      by_cases hn : ld (x.getD k []) = n
      · exact ⟨k, by omega, hn⟩
      · rw [solTo_go hs hn] at h; cases h
/-- A solution that is found solves. -/
theorem solve_solves {m : List (List Int)} {b o : List Int} (h : solve m b = some o) : sysOk m b = true ∧ o.length = cols m ∧ ∀ i, i < m.length → vK b i = sumN (cols m) (fun j => mK m i j * vK o j) := by
  unfold solve at h
  split at h
  · rename_i hs
    obtain ⟨p1, p2, p3, p4, p5, p6, p7⟩ := sysOk_parts hs
    refine ⟨hs, solTo_len h, fun r hr => ?_⟩
    have hw := wideTo_VR (b := b) (show cols m + 1 ≤ 40 by omega) p1 p3
    obtain ⟨g1, g2, g3⟩ := gj_red (k := cols m + 1) (show cols m + 1 ≤ 40 by omega) hw
    have g3 := g3 (Nat.le_refl _)
    rw [wideTo_length] at g3
    generalize hQ : gj (wideTo m b m.length) (cols m + 1) = Q at *
    obtain ⟨s1, s2⟩ := solTo_spec g1 Q.length o (Nat.le_refl _) h
    have hin := g3.1 r hr
    have hc := fun j => g1.2.coords hin j
    have e0 : vK b r = sumN Q.length (fun i => mK m r (ld (Q.getD i [])) * mK Q i (cols m)) := by
      have := hc (cols m)
      rw [mK_wide p1 hr, if_neg (by omega), if_pos rfl] at this
      rw [this]
      exact sumN_congr fun i hi => by rw [mK_wide p1 hr, if_pos (s1 i hi).1]
    have e1 : ∀ j, j < cols m → vK o j = sumN Q.length (fun i => if ld (Q.getD i []) = j then mK Q i (cols m) else 0) := fun j hj => by
      by_cases hex : ∃ i, i < Q.length ∧ ld (Q.getD i []) = j
      · obtain ⟨t, ht, he⟩ := hex
        rw [sumN_one ht (fun i hi hne => if_neg (fun e => by
          rcases Nat.lt_or_ge i t with h1 | h1
          · have := g1.2.mono i t h1 ht; omega
          · have := g1.2.mono t i (by omega) hi; omega))]
        rw [if_pos he]
        show toK (ent o j) = toK (ent (Q.getD t []) (cols m))
        rw [← he, (s1 t ht).2]
      · rw [sumN_zero (fun i hi => if_neg (fun e => hex ⟨i, hi, e⟩))]
        show toK (ent o j) = 0
        rw [s2 j (fun i hi e => hex ⟨i, hi, e⟩)]
        exact toK_zero
    rw [e0]
    have e2 : sumN (cols m) (fun j => mK m r j * vK o j) = sumN (cols m) (fun j => sumN Q.length (fun i => mK m r j * (if ld (Q.getD i []) = j then mK Q i (cols m) else 0))) :=
      sumN_congr fun j hj => by rw [e1 j hj, sumN_mul]
    rw [e2, sumN_comm]
    refine sumN_congr fun i hi => ?_
    rw [sumN_one (s1 i hi).1 (fun j hj hne => by rw [if_neg (fun e => hne e.symm)]; grind)]
    rw [if_pos rfl]
  · cases h
/-- Whatever has a solution is solved. -/
theorem solve_has {m : List (List Int)} {b : List Int} (hs : sysOk m b = true) (v : Vec) (hv : ∀ i, i < m.length → vK b i = sumN (cols m) (fun j => mK m i j * v j)) : ∃ o, solve m b = some o := by
  obtain ⟨p1, p2, p3, p4, p5, p6, p7⟩ := sysOk_parts hs
  have hw := wideTo_VR (b := b) (show cols m + 1 ≤ 40 by omega) p1 p3
  obtain ⟨g1, g2, g3⟩ := gj_red (k := cols m + 1) (show cols m + 1 ≤ 40 by omega) hw
  have g3 := g3 (Nat.le_refl _)
  rw [wideTo_length] at g3
  unfold solve
  rw [if_pos hs]
  generalize hQ : gj (wideTo m b m.length) (cols m + 1) = Q at *
  cases hsol : solTo Q (cols m) Q.length with
  | some o => exact ⟨o, rfl⟩
  | none =>
    exfalso
    obtain ⟨t, ht, he⟩ := solTo_fail _ hsol
    obtain ⟨f, hf⟩ := g3.2 t ht
    have h1 : mK Q t (cols m) = 1 := by have := g1.2.one t ht; rw [he] at this; exact this
    have h0 : ∀ j, j < cols m → mK Q t j = 0 := fun j hj => g1.2.zero t ht j (by rw [he]; exact hj)
    have hfj : ∀ j, j < cols m → sumN m.length (fun i => f i * mK m i j) = 0 := fun j hj => by
      rw [← h0 j hj, hf j]
      exact sumN_congr fun i hi => by rw [mK_wide p1 hi, if_pos hj]
    have hfn : sumN m.length (fun i => f i * vK b i) = 1 := by
      rw [← h1, hf (cols m)]
      exact sumN_congr fun i hi => by rw [mK_wide p1 hi, if_neg (by omega), if_pos rfl]
    have : sumN m.length (fun i => f i * vK b i) = 0 := by
      have e1 : sumN m.length (fun i => f i * vK b i) = sumN m.length (fun i => sumN (cols m) (fun j => f i * (mK m i j * v j))) :=
        sumN_congr fun i hi => by rw [hv i hi, sumN_mul]
      rw [e1, sumN_comm]
      refine sumN_zero fun j hj => ?_
      have e2 : sumN m.length (fun i => f i * (mK m i j * v j)) = sumN m.length (fun i => f i * mK m i j) * v j := by
        rw [← sumN_mulR]
        exact sumN_congr fun i hi => by grind
      rw [e2, hfj j hj]
      grind
    rw [this] at hfn
    exact K_one_ne hfn.symm

/-- The product with a vector, in the field. -/
theorem mmv_K {m : List (List Int)} {v : List Int} (h : mmvOk m v = true) {i : Nat} (hi : i < m.length) : vK (mmv m v) i = sumN (cols m) (fun j => mK m i j * vK v j) := by
  obtain ⟨h1, h2, h3, h4, h5, h6, h7⟩ := mmvOk_parts h
  show toK (ent (mmv m v) i) = _
  have : (mmv m v)[i]? = some (dotI (m.getD i []) v) := by rw [mmv_yes h, List.getElem?_map, getD_get hi]; rfl
  rw [ent_some this, dotI_K, (h4.getD hi).2.1]
  rfl
theorem solve_mmv {m : List (List Int)} {b o : List Int} (h : solve m b = some o) (ho : AllEl o) : mmv m o = b ∧ o.length = cols m := by
  obtain ⟨h1, h2, h3⟩ := solve_solves h
  obtain ⟨p1, p2, p3, p4, p5, p6, p7⟩ := sysOk_parts h1
  have hok : mmvOk m o = true := by
    unfold mmvOk
    rw [p6, validV_true.2 ⟨ho, by omega⟩, decide_eq_true h2]
    rfl
  refine ⟨vK_inj (mmv_AllEl _ _) p3 (by rw [mmv_length hok, p4]) (fun j => ?_), h2⟩
  by_cases hj : j < m.length
  · rw [mmv_K hok hj, h3 j hj]
  · rw [vK_out (by rw [mmv_length hok]; omega), vK_out (by omega)]
theorem solTo_AllEl {n : Nat} {x : List (List Int)} (hx : VR (n + 1) x) : ∀ (k : Nat) (o : List Int), k ≤ x.length → solTo x n k = some o → AllEl o := by
  intro k
  induction k with
  | zero =>
    intro o _ ho
    unfold solTo at ho
    injection ho with ho
    subst ho
    exact fun z hz => by rw [(List.mem_replicate.1 hz).2]; rfl
  | succ k ih =>
    intro o hk ho
    cases hs : solTo x n k with
    | none => rw [solTo_none hs (k + 1) (by omega)] at ho; cases ho
    | some o' =>
      by_cases hn : ld (x.getD k []) = n
      · have h' : solTo x n (k + 1) = none := by
          show (match solTo x n k with | none => none | some o => if ld (x.getD k []) = n then none else some (o.set (ld (x.getD k [])) (ent (x.getD k []) n))) = none
          rw [hs]
          exact if_pos hn
        rw [h'] at ho
        cases ho
      · rw [solTo_go hs hn] at ho
        injection ho with ho
        subst ho
        intro z hz
        rcases List.mem_or_eq_of_mem_set hz with h | h
        · exact ih o' (by omega) hs z h
        · rw [h]
          have := ent_range (hx.getD (show k < x.length by omega)).1 n
          exact inR_true.2 this
theorem solve_AllEl {m : List (List Int)} {b o : List Int} (h : solve m b = some o) : AllEl o := by
  have hs := (solve_solves h).1
  obtain ⟨p1, p2, p3, p4, p5, p6, p7⟩ := sysOk_parts hs
  unfold solve at h
  rw [if_pos hs] at h
  have hw := wideTo_VR (b := b) (show cols m + 1 ≤ 40 by omega) p1 p3
  obtain ⟨g1, _⟩ := gj_red (k := cols m + 1) (show cols m + 1 ≤ 40 by omega) hw
  exact solTo_AllEl g1.1 _ o (Nat.le_refl _) h
/-- The law's two sentences. -/
theorem solveOk_yes {m : List (List Int)} {b : List Int} (h : solveOk m b = true) : mmv m (solveL m b) = b ∧ (solveL m b).length = cols m := by
  cases hs : solve m b with
  | none => rw [(solve_none hs).2] at h; cases h
  | some o => rw [(solve_some hs).1]; exact solve_mmv hs (solve_AllEl hs)
theorem solveOk_parts {m : List (List Int)} {b : List Int} (h : solveOk m b = true) : sysOk m b = true := by
  cases hs : solve m b with
  | none => rw [(solve_none hs).2] at h; cases h
  | some o => exact (solve_solves hs).1
theorem solve_again {m : List (List Int)} {v : List Int} (hm : validM m = true) (hc : cols m < 40) (hv : AllEl v) (hl : v.length = cols m) : solveOk m (mmv m v) = true := by
  have hok : mmvOk m v = true := by
    unfold mmvOk
    rw [hm, validV_true.2 ⟨hv, by omega⟩, decide_eq_true hl]
    rfl
  have hs : sysOk m (mmv m v) = true := by
    unfold sysOk
    rw [hm, validV_true.2 ⟨mmv_AllEl _ _, mmv_len _ _⟩, decide_eq_true (mmv_length hok), decide_eq_true hc]
    rfl
  obtain ⟨o, ho⟩ := solve_has hs (vK v) (fun i hi => mmv_K hok hi)
  exact (solve_some ho).2

end Go.Proofs.Ytninamlcffemoaa
