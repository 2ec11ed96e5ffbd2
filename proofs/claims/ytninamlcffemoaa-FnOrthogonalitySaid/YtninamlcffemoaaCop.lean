/- Coordinates and orthogonal spaces, plain: a contained vector is the combination of the rows; the span of reduced rows; the orthogonal space twice. -/
import Derived.Test.YtninamlcffemoaaNulp
import Derived.Test.YtninamlcffemoaaDot
import Derived.Test.YtninamlcffemoaaSpanW
import Derived.Test.YtninamlcffemoaaBas4
namespace Go.Proofs.Ytninamlcffemoaa
set_option linter.unusedVariables false
set_option maxRecDepth 20000

theorem cmbTo_KC {n : Nat} {xss : List (List Int)} {cs : List Int} (h : VR n xss) (hl : xss.length = cs.length) (t : Nat) : ∀ j, j ≤ xss.length → vK (cmbTo n xss cs j) t = sumN j (fun i => vK cs i * mK xss i t) := by
  intro j
  induction j with
  | zero =>
    intro _
    rw [cmbTo_zero]
    show toK (ent (List.replicate n 0) t) = 0
    have : ent (List.replicate n (0 : Int)) t = 0 := by
      unfold ent
      rw [List.getD_eq_getElem?_getD, List.getElem?_replicate]
      split <;> rfl
    rw [this]; exact toK_zero
  | succ j ih =>
    intro hj
    have hx : xss[j]? = some (xss.getD j []) := getD_get (by omega)
    have hk : cs[j]? = some (ent cs j) := ent_get (by omega)
    rw [cmbTo_succ hx hk, vK_addS (by rw [cmbTo_len cs h hl, (h.getD (by omega)).2.1]), ih (by omega)]
    simp only [sumN]
    rfl
/-- The combination of reduced rows with a vector's coordinates is the vector. -/
theorem comb_coord {n : Nat} {m : List (List Int)} {v : List Int} (hn : n ≤ 40) (hm : RM n m) (hml : m.length ≤ 40) (h0 : 0 < m.length) (hv : AllEl v) (hl : v.length = n) (hc : leadI (redV m v) < 0) : comb m (coordTo m v m.length) = v := by
  have hin : InSp m.length (mK m) (vK v) := by
    rw [redV_in hm hv hl]
    intro hlt
    rw [leadI_ld, if_pos hlt] at hc
    omega
  have hcol := hm.1.cols h0
  have hcA : AllEl (coordTo m v m.length) := fun x hx => by
    unfold coordTo at hx
    obtain ⟨i, _, rfl⟩ := List.mem_map.1 hx
    exact inR_true.2 (ent_range hv _)
  have hcl := coordTo_length m v m.length
  have hval : validV (coordTo m v m.length) = true := validV_true.2 ⟨hcA, by omega⟩
  have hvr : vrows m = true := by rw [vrows_true, hcol]; exact hm.1
  unfold comb
  rw [decide_eq_false (show ¬ m.length = 0 by omega), decide_eq_false (show ¬ ¬ m.length = (coordTo m v m.length).length by omega), hval, hvr, hcol]
  show cmbTo n m (coordTo m v m.length) m.length = v
  refine vK_inj (cmbTo_AllEl _ _ _ _) hv (by rw [cmbTo_len _ hm.1 hcl.symm, hl]) fun j => ?_
  rw [cmbTo_KC hm.1 hcl.symm j _ (Nat.le_refl _), hm.2.coords hin j]
  refine sumN_congr fun i hi => ?_
  congr 1
  show toK (ent (coordTo m v m.length) i) = toK (ent v (ld (m.getD i [])))
  rw [ent_some (x := ent v (ld (m.getD i []))) (by unfold coordTo; simp [hi])]
theorem spanTo_ins {vs : List (List Int)} {n : Nat} (h : VR n vs) : ∀ k, k ≤ vs.length → spanTo vs n k = insTo vs k := by
  intro k
  induction k with
  | zero => intro _; rfl
  | succ k ih =>
    intro hk
    have h1 := h (vs.getD k []) (List.mem_of_getElem? (getD_get (by omega)))
    rw [spanTo, h1.1, decide_eq_true h1.2, ih (by omega)]
    rfl
theorem spanR_gj {vs : List (List Int)} {n : Nat} (hn : n ≤ 40) (h : VR n vs) : spanR vs (n : Int) = gj vs n := by
  rw [spanR_yes (inR_true.2 ⟨by omega, by omega⟩), spanTo_ins h _ (Nat.le_refl _), ins_gj hn h]
/-- The span of reduced rows. -/
theorem spanR_self {m : List (List Int)} {n : Nat} (hn : n ≤ 40) (h : RM n m) : spanR m (n : Int) = m := by
  rw [spanR_gj hn h.1]
  exact (gj_fix hn h.1).2 h
theorem spanR_valid {n : Int} {m : List (List Int)} (h : validB n m = true) : spanR m n = m := by
  obtain ⟨h0, h1, h2, h3⟩ := validB_true.1 h
  obtain ⟨k, rfl⟩ := Int.eq_ofNat_of_zero_le h0
  exact spanR_self (by omega) h2
theorem fitsB_nat {n : Int} {m : List (List Int)} {v : List Int} (h : cvB n m v = true) : validB n m = true ∧ leadI (redV m v) < 0 ∧ RM n.toNat m ∧ AllEl v ∧ v.length = n.toNat ∧ n.toNat ≤ 40 ∧ m.length ≤ 40 := by
  unfold cvB at h
  rw [Bool.and_eq_true, decide_eq_true_eq] at h
  obtain ⟨h1, h2, h3, h4, h5, h6, h7⟩ := fitsB_parts h.1
  exact ⟨h7, h.2, h1, h2, h3, h4, h5⟩
/-- What FnCoordinates asks. -/
theorem coord_all {n : Int} {m : List (List Int)} {v : List Int} (h : cvB n m v = true) (h0 : 0 < m.length) : (coC n m v).length = m.length ∧ comb m (coC n m v) = v ∧ spanR m n = m := by
  obtain ⟨h1, h2, h3, h4, h5, h6, h7⟩ := fitsB_nat h
  unfold coC
  rw [h]
  exact ⟨coordTo_length _ _ _, comb_coord h6 h3 h7 h0 h4 h5 h2, spanR_valid h1⟩

/-- Orthogonal spaces. -/
theorem RM.validB {n : Nat} {m : List (List Int)} (hn : n ≤ 40) (h : RM n m) (hl : m.length ≤ 40) : validB (n : Int) m = true := validB_true.2 ⟨by omega, by omega, h, hl⟩
theorem RM.le' {n : Nat} {R : List (List Int)} (h : RM n R) : R.length ≤ n := by have := fr_count h; omega
section
variable {n : Nat} {m : List (List Int)} (hn : n ≤ 40) (h : RM n m)
include hn h
theorem orth_gj : orthR (n : Int) m = gj (nullTo m n n) n := by
  unfold orthR
  rw [h.validB hn (by have := h.le'; omega), if_pos rfl]
  show spanR (nullTo m n n) (n : Int) = _
  exact spanR_gj hn (nullTo_VR hn)
theorem orth_RM : RM n (orthR (n : Int) m) ∧ SameSp (nullTo m n n).length (mK (nullTo m n n)) (orthR (n : Int) m).length (mK (orthR (n : Int) m)) ∧ (orthR (n : Int) m).length ≤ (nullTo m n n).length := by
  rw [orth_gj hn h]
  obtain ⟨g1, g2, g3⟩ := gj_red (k := n) hn (nullTo_VR (x := m) (k := n) hn)
  exact ⟨g1, g3 (Nat.le_refl _), g2⟩
theorem orth_dim : (orthR (n : Int) m).length + m.length = n := by
  obtain ⟨o1, o2, o3⟩ := orth_RM hn h
  have hc := fr_count h
  have hnl := nullTo_length m n
  have key := rank_le (n := (fr m n).length) (a := (orthR (n : Int) m).map fun r => (fr m n).map fun c => ent r c) (b := idR (fr m n).length) (by omega) ?_ (idR_RM (by omega)) ?_
  · rw [idR_length, List.length_map] at key
    omega
  · refine VR.mk' (by omega) fun i hi => ?_
    rw [List.length_map] at hi
    rw [show ((orthR (n : Int) m).map fun r => (fr m n).map fun c => ent r c).getD i [] = (fr m n).map fun c => ent ((orthR (n : Int) m).getD i []) c by
      rw [List.getD_eq_getElem?_getD, List.getElem?_map, getD_get hi]; rfl]
    refine ⟨fun x hx => ?_, by rw [List.length_map]⟩
    obtain ⟨c, _, rfl⟩ := List.mem_map.1 hx
    exact inR_true.2 (ent_range (o1.1.getD hi).1 _)
  · rw [idR_length, List.length_map]
    have hP : ∀ i, i < (orthR (n : Int) m).length → ∀ j, j < (fr m n).length → mK ((orthR (n : Int) m).map fun r => (fr m n).map fun c => ent r c) i j = mK (orthR (n : Int) m) i ((fr m n).getD j 0) := fun i hi j hj => by
      show vK (((orthR (n : Int) m).map fun r => (fr m n).map fun c => ent r c).getD i []) j = _
      rw [show ((orthR (n : Int) m).map fun r => (fr m n).map fun c => ent r c).getD i [] = (fr m n).map fun c => ent ((orthR (n : Int) m).getD i []) c by
        rw [List.getD_eq_getElem?_getD, List.getElem?_map, getD_get hi]; rfl]
      show toK (ent _ j) = toK (ent ((orthR (n : Int) m).getD i []) ((fr m n).getD j 0))
      rw [ent_some (x := ent ((orthR (n : Int) m).getD i []) ((fr m n).getD j 0)) (by rw [List.getElem?_map, show (fr m n)[j]? = some ((fr m n).getD j 0) by simp [List.getD, hj]]; rfl)]
    have hP0 : ∀ i, i < (orthR (n : Int) m).length → ∀ j, ¬ j < (fr m n).length → mK ((orthR (n : Int) m).map fun r => (fr m n).map fun c => ent r c) i j = 0 := fun i hi j hj => by
      show vK (((orthR (n : Int) m).map fun r => (fr m n).map fun c => ent r c).getD i []) j = _
      rw [show ((orthR (n : Int) m).map fun r => (fr m n).map fun c => ent r c).getD i [] = (fr m n).map fun c => ent ((orthR (n : Int) m).getD i []) c by
        rw [List.getD_eq_getElem?_getD, List.getElem?_map, getD_get hi]; rfl]
      exact vK_out (by rw [List.length_map]; omega)
    have hN : ∀ t, t < (fr m n).length → ∀ j, j < (fr m n).length → mK (nullTo m n n) t ((fr m n).getD j 0) = mK (idR (fr m n).length) t j := fun t ht j hj => by
      show vK ((nullTo m n n).getD t []) _ = _
      rw [nullTo_getD ht, nullV_free (fr_get hj).1 (fr_get hj).2, mK_idR ht]
      by_cases e : j = t
      · subst e; rw [if_pos rfl, if_pos rfl]
      · rw [if_neg e, if_neg]
        intro e2
        rcases Nat.lt_or_ge j t with hlt | hge
        · have := fr_mono (x := m) (n := n) hlt ht; omega
        · have := fr_mono (x := m) (n := n) (show t < j by omega) hj; omega
    constructor
    · intro i hi
      obtain ⟨f, hf⟩ := o2.2 i hi
      rw [hnl] at hf
      refine ⟨f, fun j => ?_⟩
      by_cases hj : j < (fr m n).length
      · rw [hP i hi j hj, hf]
        exact sumN_congr fun t ht => by rw [hN t ht j hj]
      · rw [hP0 i hi j hj]
        exact (sumN_zero fun t ht => by rw [mK_idR ht, if_neg (by omega)]; grind).symm
    · intro t ht
      obtain ⟨f, hf⟩ := o2.1 t (by omega)
      refine ⟨f, fun j => ?_⟩
      by_cases hj : j < (fr m n).length
      · rw [← hN t ht j hj, hf]
        exact sumN_congr fun i hi => by rw [hP i hi j hj]
      · rw [mK_idR ht, if_neg (by omega)]
        exact (sumN_zero fun i hi => by rw [hP0 i hi j hj]; grind).symm
theorem orth_perp {i k : Nat} (hi : i < m.length) (hk : k < (orthR (n : Int) m).length) : dotI (m.getD i []) ((orthR (n : Int) m).getD k []) = 0 := by
  obtain ⟨o1, o2, o3⟩ := orth_RM hn h
  have := null_orth_sp h hi (o2.2 k hk)
  have hd := dotI_K (m.getD i []) ((orthR (n : Int) m).getD k [])
  rw [(h.1.getD hi).2.1] at hd
  have h0 : toK (dotI (m.getD i []) ((orthR (n : Int) m).getD k [])) = 0 := by
    rw [hd, ← this]
    unfold dotN
    exact sumN_congr fun j hj => by show vK _ j * vK _ j = vK _ j * vK _ j; grind
  have hr := dotI_range (m.getD i []) ((orthR (n : Int) m).getD k [])
  exact (toK_eq_zero hr.1 hr.2).1 h0
theorem orth_orth : orthR (n : Int) (orthR (n : Int) m) = m := by
  obtain ⟨o1, o2, o3⟩ := orth_RM hn h
  obtain ⟨q1, q2, q3⟩ := orth_RM hn o1
  have hout : ∀ i, i < m.length → ∀ j, n ≤ j → mK m i j = 0 := fun i hi j hj => vK_out (by rw [(h.1.getD hi).2.1]; exact hj)
  have hout2 : ∀ i, i < (orthR (n : Int) (orthR (n : Int) m)).length → ∀ j, n ≤ j → mK (orthR (n : Int) (orthR (n : Int) m)) i j = 0 := fun i hi j hj => vK_out (by rw [(q1.1.getD hi).2.1]; exact hj)
  refine RM.eq q1 h ⟨fun i hi => ?_, fun i hi => ?_⟩
  · -- a vector that is orthogonal to the orthogonal space lies in the space
    refine perp_null h (hout2 i hi) fun t ht => ?_
    have hin : InSp (orthR (n : Int) m).length (mK (orthR (n : Int) m)) (vK (nullV m n ((fr m n).getD t 0))) := by
      have := o2.1 t (by rw [nullTo_length]; exact ht)
      have e : mK (nullTo m n n) t = vK (nullV m n ((fr m n).getD t 0)) := by
        show vK ((nullTo m n n).getD t []) = _
        rw [nullTo_getD ht]
      rwa [e] at this
    rw [dotN_comm]
    refine dotN_sp n hin fun k hk => ?_
    rw [dotN_comm]
    exact null_orth_sp o1 hk (q2.2 i hi)
  · refine InSp.trans (null_complete o1 (hout i hi) fun k hk => ?_) q2.1
    exact null_orth_sp h hi (o2.2 k hk)
end

end Go.Proofs.Ytninamlcffemoaa
