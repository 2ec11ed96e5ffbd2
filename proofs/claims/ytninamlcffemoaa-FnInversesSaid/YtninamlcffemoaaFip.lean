/- What FnInverses asks, plain. -/
import Derived.Test.YtninamlcffemoaaDtl
import Derived.Test.YtninamlcffemoaaInvW
import Derived.Test.YtninamlcffemoaaDetW
import Derived.Test.YtninamlcffemoaaTrp
import Derived.Test.YtninamlcffemoaaIde
import Derived.Test.YtninamlcffemoaaCmb
namespace Go.Proofs.Ytninamlcffemoaa
set_option linter.unusedVariables false
set_option maxRecDepth 20000

theorem mul_mod_one {x y : Int} (h : toK x * toK y = 1) : x * y % 1019 = 1 := by
  rw [← toK_mul, ← toK_mod] at h
  exact toK_inj (Int.emod_nonneg _ (by omega)) (by have := Int.emod_lt_of_pos (x * y) (show (0 : Int) < 1019 by omega); omega) (by omega) (by omega) (h.trans toK_one.symm)
theorem mulL_getD {p q : List (List Int)} {i : Nat} (hi : i < p.length) : (mulL p q).getD i [] = mulR q (p.getD i []) := by
  unfold mulL
  rw [List.getD_eq_getElem?_getD, List.getElem?_map, getD_get hi]
  rfl
theorem mK_mul {n : Nat} {p q : List (List Int)} (hn : n ≤ 40) (hp : VR n p) (hpl : p.length = n) (hq : VR n q) (hql : q.length = n) (h0 : 0 < n) {i : Nat} (hi : i < n) (j : Nat) : mK (mulL p q) i j = mmK n (mK p) (mK q) i j := by
  show vK ((mulL p q).getD i []) j = _
  rw [mulL_getD (by omega)]
  unfold mulR
  have hcq : cols q = n := hq.cols (by omega)
  rw [hcq, cmbTo_K hq (by rw [hql, (hp.getD (by omega)).2.1]) j _ (Nat.le_refl _), hql]
  rfl
theorem unitV_K {n i j : Nat} (hi : i < n) (hj : j < n) : vK (unitV n i) j = unK i j := by
  show toK (ent (unitV n i) j) = _
  rw [ent_some (unitV_get hj)]
  unfold unK
  by_cases e : j = i
  · rw [if_pos e, if_pos e.symm]; exact toK_one
  · rw [if_neg e, if_neg (fun h => e h.symm)]; exact toK_zero
theorem mul_ident {n : Nat} {p q : List (List Int)} (hn : n ≤ 40) (hp : VR n p) (hpl : p.length = n) (hq : VR n q) (hql : q.length = n) (h0 : 0 < n) (h : ∀ i, i < n → ∀ j, j < n → mmK n (mK p) (mK q) i j = unK i j) : mulL p q = idL n n := by
  have hcq : cols q = n := hq.cols (by omega)
  apply List.ext_getElem?
  intro i
  by_cases hi : i < n
  · have l1 : i < (mulL p q).length := by unfold mulL; rw [List.length_map]; omega
    rw [getD_get l1, getD_get (by rw [idL_length]; exact hi)]
    congr 1
    have e1 : (mulL p q).getD i [] = mulR q (p.getD i []) := mulL_getD (by omega)
    have e2 : (idL n n).getD i [] = unitV n i := by unfold idL; simp [List.getD_eq_getElem?_getD, hi]
    have hl : (mulR q (p.getD i [])).length = n := by
      unfold mulR
      rw [hcq, cmbTo_len _ hq (by rw [hql, (hp.getD (by omega)).2.1])]
    rw [e2]
    refine vK_inj (by rw [e1]; exact cmbTo_AllEl _ _ _ _) (unitV_AllEl n i) (by rw [e1, hl, unitV_length]) fun j => ?_
    by_cases hj : j < n
    · rw [unitV_K hi hj, ← h i hi j hj]
      exact mK_mul hn hp hpl hq hql h0 hi j
    · rw [vK_out (by rw [e1, hl]; omega), vK_out (by rw [unitV_length]; omega)]
  · rw [List.getElem?_eq_none (by unfold mulL; rw [List.length_map]; omega), List.getElem?_eq_none (by rw [idL_length]; omega)]
theorem trL_VR {n : Nat} {m : List (List Int)} (hn : n ≤ 40) (hm : VR n m) (hl : m.length = n) (h0 : 0 < n) : VR n (trL m) ∧ (trL m).length = n ∧ cols (trL m) = n ∧ validM (trL m) = true ∧ ∀ i, i < n → ∀ j, j < n → mK (trL m) i j = trK (mK m) i j := by
  have hc : cols m = n := hm.cols (by omega)
  have hlen : (trL m).length = n := by unfold trL; simp [hc]
  have hg : ∀ i, i < n → (trL m).getD i [] = m.map (fun r => ent r i) := fun i hi => by
    unfold trL
    rw [hc, List.getD_eq_getElem?_getD, List.getElem?_map]
    simp [hi]
  have hv : VR n (trL m) := VR.mk' hn fun i hi => by
    rw [hg i (by omega)]
    refine ⟨fun x hx => ?_, by rw [List.length_map]; exact hl⟩
    obtain ⟨r, hr, rfl⟩ := List.mem_map.1 hx
    exact inR_true.2 (ent_range (validV_true.1 (hm r hr).1).1 i)
  have hcc : cols (trL m) = n := hv.cols (by omega)
  refine ⟨hv, hlen, hcc, validM_true.2 ⟨by rw [hcc]; exact hv, by omega⟩, fun i hi j hj => ?_⟩
  show vK ((trL m).getD i []) j = vK (m.getD j []) i
  rw [hg i hi]
  show toK (ent _ j) = toK (ent (m.getD j []) i)
  rw [ent_some (x := ent (m.getD j []) i) (by rw [List.getElem?_map, getD_get (show j < m.length by omega)]; rfl)]
section
variable {m : List (List Int)} (hs : sqOk m = true)
include hs
theorem detM_sq : detM m = detI m := by
  obtain ⟨h1, h2, h3, h4⟩ := sqOk_parts hs
  exact detM_good (by rw [h1, decide_eq_true h2]; rfl)
theorem detM_K : toK (detM m) = DK m.length (mK m) ∧ 0 ≤ detM m ∧ detM m ≤ 1018 := by
  obtain ⟨h1, h2, h3, h4⟩ := sqOk_parts hs
  rw [detM_sq hs]
  exact detI_K (by omega) h4 rfl
theorem inv_det_iff : (invOk m != (detM m != 0)) = false := by
  obtain ⟨h1, h2, h3, h4⟩ := sqOk_parts hs
  obtain ⟨k1, k2, k3⟩ := detM_K hs
  have hi := aug_iff h4 h3
  have e : invOk m = true ↔ detM m ≠ 0 := by
    unfold invOk
    rw [hs, Bool.true_and, decide_eq_true_eq, ← hi, ← k1]
    exact not_congr (toK_eq_zero k2 k3)
  cases hq : invOk m
  · have : detM m = 0 := Classical.byContradiction fun h => by rw [e.2 h] at hq; cases hq
    rw [this]; rfl
  · have := e.1 hq
    simp [this]
theorem inv_rank_iff : (invOk m != ((((rowRed m).length : Nat) : Int) == (m.length : Int))) = false := by
  obtain ⟨h1, h2, h3, h4⟩ := sqOk_parts hs
  have hi := aug_iff h4 h3
  have hj := DK_ne_iff (n := m.length) (by omega) h4 rfl
  have e : invOk m = true ↔ (rowRed m).length = m.length := by
    unfold invOk
    rw [hs, Bool.true_and, decide_eq_true_eq, ← hi, hj, rowRed_yes h1, ← h2]
  cases hq : invOk m
  · have : ¬ (rowRed m).length = m.length := fun h => by rw [e.2 h] at hq; cases hq
    have : ¬ (((rowRed m).length : Nat) : Int) = (m.length : Int) := by omega
    simp; omega
  · have := e.1 hq
    rw [this]; simp
theorem invAll_ok (hok : invOk m = true) (h0 : 0 < m.length) :
    validM (invM m) = true ∧ cols (invM m) = m.length ∧ (invM m).length = m.length ∧ mulL m (invM m) = idL m.length m.length ∧ mulL (invM m) m = idL m.length m.length ∧ detM m * detM (invM m) % 1019 = 1 ∧ detM (trL m) = detM m ∧
      0 ≤ detM m ∧ detM m ≤ 1018 ∧ 0 ≤ detM (invM m) ∧ detM (invM m) ≤ 1018 := by
  obtain ⟨h1, h2, h3, h4⟩ := sqOk_parts hs
  have hl : (gj (aug m) m.length).length = m.length := by
    have := hok
    unfold invOk at this
    rw [hs, Bool.true_and, decide_eq_true_eq] at this
    exact this
  have hx : invM m = tails m.length (gj (aug m) m.length) := by unfold invM; rw [if_pos hok]
  obtain ⟨x1, x2, x3, x4⟩ := inv_mats h4 h3 hl
  have x5 := inv_det h4 h3 hl
  rw [← hx] at x1 x2 x3 x4 x5
  have xc : cols (invM m) = m.length := x1.cols (by omega)
  have xv : validM (invM m) = true := validM_true.2 ⟨by rw [xc]; exact x1, by omega⟩
  have xs : sqOk (invM m) = true := by
    unfold sqOk
    rw [xv, decide_eq_true (show (invM m).length = cols (invM m) by omega), decide_eq_true (show (invM m).length ≤ 20 by omega)]
    rfl
  obtain ⟨k1, k2, k3⟩ := detM_K hs
  obtain ⟨l1, l2, l3⟩ := detM_K xs
  obtain ⟨t1, t2, t3, t4, t5⟩ := trL_VR (n := m.length) (by omega) h4 rfl h0
  have ts : sqOk (trL m) = true := by
    unfold sqOk
    rw [t4, decide_eq_true (show (trL m).length = cols (trL m) by omega), decide_eq_true (show (trL m).length ≤ 20 by omega)]
    rfl
  obtain ⟨r1, r2, r3⟩ := detM_K ts
  refine ⟨xv, xc, x2, mul_ident (by omega) h4 rfl x1 x2 h0 x3, mul_ident (by omega) x1 x2 h4 rfl h0 x4, mul_mod_one ?_, ?_, k2, k3, l2, l3⟩
  · rw [k1, l1, x2]; exact x5
  · refine toK_inj r2 r3 k2 k3 ?_
    rw [r1, k1, t2, DK_congr m.length _ (trK (mK m)) t5, DK_tr (n := m.length) (by omega) h4 rfl]
end

end Go.Proofs.Ytninamlcffemoaa
