/- Determinants over lists: elimination and inversion against the expansion. No program is named. -/
import Derived.Test.YtninamlcffemoaaLap
import Derived.Test.YtninamlcffemoaaInv
import Derived.Test.YtninamlcffemoaaDetp
namespace Go.Proofs.Ytninamlcffemoaa
set_option linter.unusedVariables false
set_option maxRecDepth 20000

/-- One column of the reference's elimination multiplies every alternating function by the same number. -/
theorem alt_gjStep {n cc k : Nat} {s : List (List Int) × Nat} (hn : cc ≤ 40) (hv : VR cc s.1) (hl : s.1.length = n) (hs : s.2 ≤ s.1.length) : ∃ f : K, f ≠ 0 ∧ ∀ F, Alt n F → F (mK s.1) = f * F (mK (gjStep k s).1) := by
  have hid : ∃ f : K, f ≠ 0 ∧ ∀ F, Alt n F → F (mK s.1) = f * F (mK s.1) := ⟨1, K_one_ne, fun F _ => by grind⟩
  unfold gjStep
  by_cases ht : s.2 < s.1.length
  · rw [if_pos ht]
    obtain ⟨p1, p2, p3, p4⟩ := pivAt_spec (rows := s.1) (k := k) (t := s.2) hs
    generalize pivAt s.1 k s.2 = p at *
    by_cases hp : p < s.1.length
    · rw [if_pos hp]
      have hvp := hv.getD hp
      have hne := p4 hp
      have hr := ent_range hvp.1 k
      have hc : toK (invI (ent (s.1.getD p []) k)) * mK s.1 p k = 1 := by
        rw [← invI_K hr.1 hr.2 hne]
        show _ * toK (ent (s.1.getD p []) k) = _
        grind
      have hlr : (leadRow s.1 k p).length = cc := by rw [leadRow_length]; exact hvp.2.1
      have hlK : ∀ j, vK (leadRow s.1 k p) j = toK (invI (ent (s.1.getD p []) k)) * mK s.1 p j := fun j => vK_scl _ _ j
      have hS : ∀ i, i < n → ∀ j, mK (gjRows s.1 k s.2 p) i j = if i = s.2 then toK (invI (ent (s.1.getD p []) k)) * mK s.1 p j else (if i = p then mK s.1 s.2 j else mK s.1 i j) - (if i = p then mK s.1 s.2 k else mK s.1 i k) * (toK (invI (ent (s.1.getD p []) k)) * mK s.1 p j) := by
        intro i hi j
        have e : (gjRows s.1 k s.2 p).getD i [] = if i = s.2 then leadRow s.1 k p else el (if i = p then s.1.getD s.2 [] else s.1.getD i []) (leadRow s.1 k p) k := by
          unfold gjRows
          rw [clearTo_getD (by rw [swapIn_length]; omega), swapIn_getD ht hp]
          by_cases h1 : i = s.2
          · rw [if_pos h1, if_pos h1, if_pos h1]
          · rw [if_neg h1, if_neg h1, if_neg h1, if_pos (by omega)]
        show vK ((gjRows s.1 k s.2 p).getD i []) j = _
        rw [e]
        by_cases h1 : i = s.2
        · rw [if_pos h1, if_pos h1]; exact hlK j
        · rw [if_neg h1, if_neg h1]
          by_cases h2 : i = p
          · rw [if_pos h2, if_pos h2, if_pos h2, vK_el (by rw [hlr]; exact (hv.getD ht).2.1), hlK]; rfl
          · rw [if_neg h2, if_neg h2, if_neg h2, vK_el (by rw [hlr]; exact (hv.getD (by omega)).2.1), hlK]; rfl
      refine ⟨mK s.1 p k * (if p = s.2 then 1 else -1), fun e => ?_, fun F hF => ?_⟩
      · rcases K_dom e with e | e
        · rw [e] at hc
          exact K_one_ne (by rw [← hc]; grind)
        · split at e
          · exact K_one_ne e
          · exact K_one_ne (by grind)
      · have := hF.gstep (by omega) (by omega) hS
        show F (mK s.1) = _ * F (mK (gjRows s.1 k s.2 p))
        rw [this]
        generalize toK (invI (ent (s.1.getD p []) k)) = c at *
        have hc2 : mK s.1 p k * c = 1 := by rw [← hc]; grind
        split
        · have : mK s.1 p k * 1 * (c * (1 * F (mK s.1))) = (mK s.1 p k * c) * F (mK s.1) := by grind
          rw [this, hc2]; grind
        · have : mK s.1 p k * -1 * (c * (-1 * F (mK s.1))) = (mK s.1 p k * c) * F (mK s.1) := by grind
          rw [this, hc2]; grind
    · rw [if_neg hp]; exact hid
  · rw [if_neg ht]; exact hid
theorem alt_gj {n cc : Nat} {m : List (List Int)} (hn : cc ≤ 40) (hv : VR cc m) (hl : m.length = n) : ∀ k, ∃ f : K, f ≠ 0 ∧ ∀ F, Alt n F → F (mK m) = f * F (mK (gjTo m k).1) := by
  intro k
  induction k with
  | zero => exact ⟨1, K_one_ne, fun F _ => by show _ = 1 * F (mK m); grind⟩
  | succ k ih =>
    obtain ⟨f, hf, h1⟩ := ih
    obtain ⟨P, g⟩ := gj_inv hn hv k
    obtain ⟨f2, hf2, h2⟩ := alt_gjStep (n := n) (k := k) hn g.vr (g.len.trans hl) g.le
    refine ⟨f * f2, fun e => ?_, fun F hF => ?_⟩
    · rcases K_dom e with e | e
      · exact hf e
      · exact hf2 e
    · rw [h1 F hF, h2 F hF]
      show _ = f * f2 * F (mK (gjStep k (gjTo m k)).1)
      grind
theorem gj_len_snd {cc k : Nat} {m : List (List Int)} (hn : cc ≤ 40) (hv : VR cc m) : (gj m k).length = (gjTo m k).2 := by
  obtain ⟨P, g⟩ := gj_inv hn hv k
  unfold gj
  rw [List.length_take]
  have := g.le
  omega
/-- Full rank: every alternating function is a multiple of its value at the identity. -/
theorem alt_full {n cc : Nat} {m : List (List Int)} (hn : cc ≤ 40) (hv : VR cc m) (hl : m.length = n) (hr : (gj m n).length = n) : ∃ f : K, f ≠ 0 ∧ ∀ F, Alt n F → F (mK m) = f * F unK := by
  obtain ⟨f, hf, h1⟩ := alt_gj hn hv hl n
  obtain ⟨P, g⟩ := gj_inv hn hv n
  have h2 : (gjTo m n).2 = n := by rw [← gj_len_snd hn hv]; exact hr
  have hgl : (gjTo m n).1.length = n := by rw [g.len]; exact hl
  have hP : ∀ i, i < n → P i = i := mono_all (fun i j h3 h4 => g.mono i j h3 (by omega)) (fun i hi => g.pk i (by omega))
  refine ⟨f, hf, fun F hF => ?_⟩
  rw [h1 F hF]
  congr 1
  refine hF.congr _ _ fun i hi j hj => ?_
  unfold unK
  by_cases e : i = j
  · subst e
    rw [if_pos rfl]
    have := g.one i (by omega)
    rwa [hP i hi] at this
  · rw [if_neg e]
    have := g.other j i (by omega) (by omega) e
    rwa [hP j hj] at this
/-- Less than full rank: every alternating function is 0. -/
theorem alt_short {n cc : Nat} {m : List (List Int)} (hn : cc ≤ 40) (hv : VR cc m) (hl : m.length = n) (hr : (gj m n).length ≠ n) {F : (Nat → Vec) → K} (hF : Alt n F) : F (mK m) = 0 := by
  obtain ⟨f, hf, h1⟩ := alt_gj hn hv hl n
  obtain ⟨P, g⟩ := gj_inv hn hv n
  have h2 : (gjTo m n).2 ≠ n := by rw [← gj_len_snd hn hv]; exact hr
  have hgl : (gjTo m n).1.length = n := by rw [g.len]; exact hl
  have hle := g.le
  rw [h1 F hF, hF.zeroRow (p := (gjTo m n).2) (by omega) (fun j hj => g.rest _ (Nat.le_refl _) (by omega) j hj)]
  grind
section
variable {n : Nat} {m : List (List Int)} (hn : n ≤ 40) (hv : VR n m) (hl : m.length = n)
include hn hv hl
theorem DK_ne_iff : DK n (mK m) ≠ 0 ↔ (gj m n).length = n := by
  constructor
  · intro h
    exact Classical.byContradiction fun hr => h (alt_short hn hv hl hr (DK_alt n))
  · intro hr
    obtain ⟨f, hf, h1⟩ := alt_full hn hv hl hr
    rw [h1 _ (DK_alt n), DK_un]
    exact fun e => hf (by rw [← e]; grind)
theorem alt_det {F : (Nat → Vec) → K} (hF : Alt n F) : F (mK m) = DK n (mK m) * F unK := by
  by_cases hr : (gj m n).length = n
  · obtain ⟨f, hf, h1⟩ := alt_full hn hv hl hr
    rw [h1 _ hF, h1 _ (DK_alt n), DK_un]; grind
  · rw [alt_short hn hv hl hr hF, alt_short hn hv hl hr (DK_alt n)]; grind
theorem DK_mul (B : Nat → Vec) : DK n (mmK n (mK m) B) = DK n (mK m) * DK n B := by
  have := alt_det hn hv hl (mm_alt n B)
  rw [this, DK_congr n (mmK n unK B) B (fun i hi j _ => mmK_un n B hi j)]
theorem DK_tr : DK n (trK (mK m)) = DK n (mK m) := by
  have := alt_det hn hv hl (DK_tr_alt n)
  rw [this, trK_un, DK_un]; grind
end

/-- The reference's determinant is the expansion's. -/
def shf (k : Nat) (R : Nat → Vec) : Nat → Vec := fun a b => R (a + k) (b + k)
theorem vK_dcl {r row : List Int} (h : r.length = row.length) (k : Nat) (inv : Int) (j : Nat) : vK (dcl r row k inv) j = vK r j - vK r k * toK inv * vK row j := by
  unfold dcl dk
  rw [vK_addS h, toK_mod, toK_sub, toK_mod, toK_mul, toK_zero]
  show vK r j + (0 - vK r k * toK inv) * vK row j = _
  grind
theorem toK_detD (rows : List (List Int)) (k p : Nat) (d : Int) : toK (detD rows k p d) = (if p = k then toK d else - toK d) * mK rows p k := by
  unfold detD
  rw [toK_mod, toK_mul]
  show _ * toK (ent (rows.getD p []) k) = _ * toK (ent (rows.getD p []) k)
  congr 1
  split
  · rfl
  · rw [toK_mod, toK_sub, toK_zero]; grind
theorem det_step {n k : Nat} {rows : List (List Int)} {d : Int} (hn : n ≤ 40) (hv : VR n rows) (hl : rows.length = n) (hk : k < n) (hp : pivAt rows k k < rows.length) :
    toK (detD rows k (pivAt rows k k) d) * DK (n - (k + 1)) (shf (k + 1) (mK (detRows rows k (pivAt rows k k)))) = toK d * DK (n - k) (shf k (mK rows)) := by
  obtain ⟨p1, p2, p3, p4⟩ := pivAt_spec (rows := rows) (k := k) (t := k) (by omega)
  generalize pivAt rows k k = p at *
  have hvp := hv.getD hp
  have hne := p4 hp
  have hr := ent_range hvp.1 k
  have hc : mK rows p k * toK (invI (ent (rows.getD p []) k)) = 1 := invI_K hr.1 hr.2 hne
  have hR : ∀ i, i < n → ∀ j, mK (detRows rows k p) i j = if k < i then (if i = p then mK rows k j else mK rows i j) - (if i = p then mK rows k k else mK rows i k) * toK (invI (ent (rows.getD p []) k)) * mK rows p j else if i = k then mK rows p j else mK rows i j := by
    intro i hi j
    have h1 : (dSwap rows k p)[i]? = some ((dSwap rows k p).getD i []) := getD_get (by rw [dSwap_length]; omega)
    have h2 := getD_some (dclTo_get (row := rows.getD p []) (k := k) (inv := invI (ent (rows.getD p []) k)) (i := rows.length) h1)
    show vK ((detRows rows k p).getD i []) j = _
    unfold detRows
    rw [h2, dSwap_getD (by omega) hp]
    by_cases c : k < i
    · rw [if_pos (by omega), if_pos c, if_neg (show ¬ i = k by omega)]
      by_cases c2 : i = p
      · rw [if_pos c2, if_pos c2, if_pos c2, vK_dcl (by rw [hvp.2.1]; exact (hv.getD (by omega)).2.1)]; rfl
      · rw [if_neg c2, if_neg c2, if_neg c2, vK_dcl (by rw [hvp.2.1]; exact (hv.getD (by omega)).2.1)]; rfl
    · rw [if_neg (by omega), if_neg c]
      by_cases c1 : i = k
      · rw [if_pos c1, if_pos c1]; rfl
      · rw [if_neg c1, if_neg c1, if_neg (show ¬ i = p by omega)]; rfl
  obtain ⟨q, hq⟩ : ∃ q, n - k = q + 1 := ⟨n - k - 1, by omega⟩
  have hq2 : n - (k + 1) = q := by omega
  rw [hq, hq2]
  have hA := DK_alt (q + 1)
  have e1 := hA.pswap (shf k (mK rows)) (p := p - k) (t := 0) (by omega) (by omega)
  have e2 : DK (q + 1) (shf k (mK (detRows rows k p))) = DK (q + 1) (fun i j => if i = 0 then shf k (mK rows) (p - k) j else if i = p - k then shf k (mK rows) 0 j else shf k (mK rows) i j) := by
    refine hA.clear (t := 0) (by omega) (fun i => (if i + k = p then mK rows k k else mK rows (i + k) k) * toK (invI (ent (rows.getD p []) k))) fun i hi j hj => ?_
    show mK (detRows rows k p) (i + k) (j + k) = _
    rw [hR _ (by omega)]
    by_cases c : i = 0
    · subst c
      rw [if_neg (by omega), if_pos (by omega), if_pos rfl, if_pos rfl]
      unfold shf
      rw [show p - k + k = p by omega]
    · rw [if_pos (by omega), if_neg c, if_pos rfl]
      rw [if_neg c]
      unfold shf
      rw [show p - k + k = p by omega]
      by_cases c2 : i = p - k
      · rw [if_pos c2, if_pos (show i + k = p by omega), if_pos (show i + k = p by omega), show 0 + k = k by omega]
      · rw [if_neg c2, if_neg (show ¬ i + k = p by omega), if_neg (show ¬ i + k = p by omega)]
  have e3 : DK (q + 1) (shf k (mK (detRows rows k p))) = mK rows p k * DK q (shf (k + 1) (mK (detRows rows k p))) := by
    rw [DK_first (fun i h0 hi => ?_)]
    · congr 1
      · show mK (detRows rows k p) (0 + k) (0 + k) = _
        rw [hR _ (by omega), if_neg (by omega), if_pos (by omega), show 0 + k = k by omega]
      · refine congrArg (DK q) (funext fun a => funext fun b => ?_)
        unfold shf
        rw [show a + 1 + k = a + (k + 1) by omega, show b + 1 + k = b + (k + 1) by omega]
    · show mK (detRows rows k p) (i + k) (0 + k) = 0
      rw [hR _ (by omega), if_pos (by omega), show 0 + k = k by omega]
      generalize toK (invI (ent (rows.getD p []) k)) = c at *
      split
      · have : mK rows k k - mK rows k k * c * mK rows p k = mK rows k k - mK rows k k * (mK rows p k * c) := by grind
        rw [this, hc]; grind
      · have : mK rows (i + k) k - mK rows (i + k) k * c * mK rows p k = mK rows (i + k) k - mK rows (i + k) k * (mK rows p k * c) := by grind
        rw [this, hc]; grind
  rw [toK_detD]
  have e4 : (if p = k then toK d else - toK d) * mK rows p k * DK q (shf (k + 1) (mK (detRows rows k p))) = (if p = k then toK d else - toK d) * DK (q + 1) (shf k (mK (detRows rows k p))) := by rw [e3]; grind
  rw [e4, e2, e1]
  by_cases c : p = k
  · rw [if_pos c, if_pos (by omega)]; grind
  · rw [if_neg c, if_neg (by omega)]; grind
theorem detRows_VR {n k : Nat} {rows : List (List Int)} (hn : n ≤ 40) (hv : VR n rows) (hk : k < rows.length) (hp : pivAt rows k k < rows.length) : VR n (detRows rows k (pivAt rows k k)) :=
  dclTo_VR hn (dSwap_VR hn hv hk hp) (hv.getD hp).2.1
theorem detRows_length (rows : List (List Int)) (k p : Nat) : (detRows rows k p).length = rows.length := by unfold detRows; rw [dclTo_length, dSwap_length]
theorem detTo_inv {n : Nat} {m : List (List Int)} (hn : n ≤ 40) (hv : VR n m) (hl : m.length = n) : ∀ k, k ≤ n →
    (∀ rows d, detTo m k = some (rows, d) → VR n rows ∧ rows.length = n ∧ 0 ≤ d ∧ d ≤ 1018 ∧ toK d * DK (n - k) (shf k (mK rows)) = DK n (mK m)) ∧ (detTo m k = none → DK n (mK m) = 0) := by
  intro k
  induction k with
  | zero =>
    intro _
    refine ⟨fun rows d h => ?_, fun h => by cases h⟩
    injection h with h
    injection h with h1 h2
    subst h1 h2
    refine ⟨hv, hl, by omega, by omega, ?_⟩
    rw [toK_one]
    show 1 * DK n (fun a b => mK m (a + 0) (b + 0)) = _
    grind
  | succ k ih =>
    intro hk
    obtain ⟨i1, i2⟩ := ih (by omega)
    cases hd : detTo m k with
    | none =>
      refine ⟨fun rows d h => ?_, fun _ => i2 hd⟩
      rw [detTo, hd] at h
      cases h
    | some s =>
      obtain ⟨rows, d⟩ := s
      obtain ⟨v1, l1, d0, d1, e1⟩ := i1 rows d hd
      by_cases hp : pivAt rows k k < rows.length
      · rw [detTo_go hd hp]
        refine ⟨fun rows' d' h => ?_, fun h => by cases h⟩
        injection h with h
        injection h with h1 h2
        subst h1 h2
        refine ⟨detRows_VR hn v1 (by omega) hp, by rw [detRows_length]; exact l1, (detD_range _ _ _ _).1, (detD_range _ _ _ _).2, ?_⟩
        rw [det_step hn v1 l1 (by omega) hp, e1]
      · have h1 : detTo m (k + 1) = none := by rw [detTo, hd]; simp only [detStep]; rw [if_neg hp]
        rw [h1]
        refine ⟨fun rows d h => (by cases h), fun _ => ?_⟩
        rw [← e1]
        obtain ⟨p1, p2, p3, p4⟩ := pivAt_spec (rows := rows) (k := k) (t := k) (by omega)
        obtain ⟨q, hq⟩ : ∃ q, n - k = q + 1 := ⟨n - k - 1, by omega⟩
        have hz : ∀ i, i < q + 1 → shf k (mK rows) i 0 = 0 := fun i hi => by
          show vK (rows.getD (i + k) []) (0 + k) = 0
          rw [vK_zero (v1.getD (by omega)).1, show 0 + k = k by omega]
          exact p3 _ (by omega) (by omega)
        rw [hq, DK_first (fun i _ hi => hz i hi), hz 0 (by omega)]
        grind
theorem detI_K {n : Nat} {m : List (List Int)} (hn : n ≤ 40) (hv : VR n m) (hl : m.length = n) : toK (detI m) = DK n (mK m) ∧ 0 ≤ detI m ∧ detI m ≤ 1018 := by
  obtain ⟨i1, i2⟩ := detTo_inv hn hv hl n (Nat.le_refl _)
  unfold detI
  rw [hl]
  cases hd : detTo m n with
  | none => exact ⟨by rw [i2 hd]; exact toK_zero, by simp, by simp⟩
  | some s =>
    obtain ⟨rows, d⟩ := s
    obtain ⟨v1, l1, d0, d1, e1⟩ := i1 rows d hd
    refine ⟨?_, d0, d1⟩
    rw [← e1, Nat.sub_self]
    show toK d = toK d * 1
    grind

/-- The inverse. -/
theorem aug_iff {m : List (List Int)} (h : VR m.length m) (hn : m.length ≤ 20) : DK m.length (mK m) ≠ 0 ↔ (gj (aug m) m.length).length = m.length := by
  have hv := aug_VR h hn
  have e : ∀ {F : (Nat → Vec) → K}, Alt m.length F → F (mK (aug m)) = F (mK m) := fun hF => hF.congr _ _ fun i hi j hj => by rw [mK_aug h hi, if_pos hj]
  constructor
  · intro hne
    exact Classical.byContradiction fun hr => hne (by rw [← e (DK_alt _)]; exact alt_short (by omega) hv aug_length hr (DK_alt _))
  · intro hr
    obtain ⟨f, hf, h1⟩ := alt_full (by omega) hv aug_length hr
    rw [← e (DK_alt _), h1 _ (DK_alt _), DK_un]
    exact fun e => hf (by rw [← e]; grind)
theorem inv_mats {m : List (List Int)} (h : VR m.length m) (hn : m.length ≤ 20) (hl : (gj (aug m) m.length).length = m.length) :
    VR m.length (tails m.length (gj (aug m) m.length)) ∧ (tails m.length (gj (aug m) m.length)).length = m.length ∧
    (∀ i, i < m.length → ∀ j, j < m.length → mmK m.length (mK m) (mK (tails m.length (gj (aug m) m.length))) i j = unK i j) ∧
    (∀ i, i < m.length → ∀ j, j < m.length → mmK m.length (mK (tails m.length (gj (aug m) m.length))) (mK m) i j = unK i j) := by
  obtain ⟨e, hld⟩ := inv_yes h hn hl
  obtain ⟨a1, a2, a3⟩ := aug_rows h hn
  rw [← e] at hld a1 a2 a3
  generalize hq : gj (aug m) m.length = q at *
  clear hl e
  have hx : ∀ i, i < m.length → ∀ j, mK (tails m.length q) i j = mK q i (m.length + j) := fun i hi j => mK_tails (by omega)
  have hun : ∀ i, i < m.length → ∀ j, j < m.length → mK q i j = unK i j := fun i hi j hj => by
    unfold unK
    by_cases c : i = j
    · subst c
      rw [if_pos rfl]
      have := a1.2.one i (by omega)
      rwa [hld i hi] at this
    · rw [if_neg c]
      have := a1.2.other j i (by omega) (by omega) c
      rwa [hld j hj] at this
  refine ⟨tails_VR hn a1.1, by rw [tails_length]; exact a2, fun i hi j hj => ?_, fun i hi j hj => ?_⟩
  · obtain ⟨g, hg⟩ := a3.1 i (by rw [aug_length]; exact hi)
    rw [a2] at hg
    have g1 : ∀ k, k < m.length → mK m i k = g k := fun k hk => by
      have := hg k
      rw [mK_aug h hi, if_pos hk] at this
      rw [this, sumN_one hk (fun t ht hne => by rw [hun t ht k hk]; unfold unK; rw [if_neg hne]; grind), hun k hk k hk]
      unfold unK
      rw [if_pos rfl]; grind
    have g2 := hg (m.length + j)
    rw [mK_aug h hi, if_neg (by omega), Nat.add_sub_cancel_left] at g2
    unfold mmK
    rw [sumN_congr (fun k hk => by rw [g1 k hk, hx k hk j]), ← g2]
    unfold unK
    by_cases c : j = i
    · rw [if_pos c, if_pos c.symm]
    · rw [if_neg c, if_neg (fun e => c e.symm)]
  · obtain ⟨g, hg⟩ := a3.2 i (by omega)
    rw [aug_length] at hg
    have g1 : ∀ k, k < m.length → mK (tails m.length q) i k = g k := fun k hk => by
      rw [hx i hi, hg (m.length + k), sumN_one hk (fun t ht hne => by rw [mK_aug h ht, if_neg (by omega), if_neg (by omega)]; grind), mK_aug h hk, if_neg (by omega), if_pos (by omega)]
      grind
    have g2 := hg j
    rw [hun i hi j hj] at g2
    rw [g2]
    exact sumN_congr fun k hk => by rw [g1 k hk, mK_aug h hk, if_pos hj]
theorem inv_det {m : List (List Int)} (h : VR m.length m) (hn : m.length ≤ 20) (hl : (gj (aug m) m.length).length = m.length) :
    DK m.length (mK m) * DK m.length (mK (tails m.length (gj (aug m) m.length))) = 1 := by
  obtain ⟨x1, x2, x3, x4⟩ := inv_mats h hn hl
  rw [← DK_mul (by omega) h rfl, DK_congr _ _ unK x3, DK_un]

end Go.Proofs.Ytninamlcffemoaa
