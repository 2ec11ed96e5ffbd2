/- Inversion of matrices over the field, plain: a matrix beside the identity, reduced. No program is named. -/
import Derived.Test.YtninamlcffemoaaRedu
namespace Go.Proofs.Ytninamlcffemoaa
set_option linter.unusedVariables false
set_option maxRecDepth 20000

theorem ent_append (a b : List Int) (j : Nat) : ent (a ++ b) j = if j < a.length then ent a j else ent b (j - a.length) := by
  unfold ent
  rw [List.getD_eq_getElem?_getD, List.getD_eq_getElem?_getD, List.getD_eq_getElem?_getD]
  split
  · rw [List.getElem?_append_left ‹_›]
  · rw [List.getElem?_append_right (by omega)]
theorem ent_drop (a : List Int) (k j : Nat) : ent (a.drop k) j = ent a (k + j) := by
  unfold ent
  rw [List.getD_eq_getElem?_getD, List.getD_eq_getElem?_getD, List.getElem?_drop]
/-- The row of n numbers with 1 at place k. -/
def uniR (n k : Nat) : List Int := (List.replicate n 0).set k 1
theorem uniR_length (n k : Nat) : (uniR n k).length = n := by simp [uniR]
theorem ent_uniR {n k j : Nat} (hk : k < n) : ent (uniR n k) j = if j = k then 1 else 0 := by
  unfold ent uniR
  rw [List.getD_eq_getElem?_getD, List.getElem?_set]
  by_cases h : k = j
  · subst h
    simp [hk]
  · rw [if_neg h, if_neg (fun e => h e.symm), List.getElem?_replicate]
    split <;> rfl
theorem uniR_AllEl (n k : Nat) : AllEl (uniR n k) := fun x hx => by
  unfold uniR at hx
  rcases List.mem_or_eq_of_mem_set hx with h | h
  · rw [(List.mem_replicate.1 h).2]; rfl
  · subst h; rfl
def idR (n : Nat) : List (List Int) := (List.range n).map (uniR n)
theorem idR_length (n : Nat) : (idR n).length = n := by simp [idR]
theorem idR_getD {n i : Nat} (hi : i < n) : (idR n).getD i [] = uniR n i := by
  unfold idR
  rw [List.getD_eq_getElem?_getD]
  simp [hi]
theorem idR_VR {n : Nat} (hn : n ≤ 40) : VR n (idR n) := VR.mk' hn fun i hi => by
  rw [idR_length] at hi
  rw [idR_getD hi]
  exact ⟨uniR_AllEl _ _, uniR_length _ _⟩
theorem mK_idR {n i j : Nat} (hi : i < n) : mK (idR n) i j = if j = i then 1 else 0 := by
  show vK ((idR n).getD i []) j = _
  rw [idR_getD hi]
  show toK (ent (uniR n i) j) = _
  rw [ent_uniR hi]
  split
  · exact toK_one
  · exact toK_zero
theorem idR_RM {n : Nat} (hn : n ≤ 40) : RM n (idR n) := by
  refine RM.of (P := fun i => i) (idR_VR hn) ?_
  rw [idR_length]
  refine ⟨fun i j h _ => h, fun i hi => ?_, fun i hi j hj => ?_, fun i k hi hk hne => ?_⟩
  · rw [mK_idR hi, if_pos rfl]
  · rw [mK_idR hi, if_neg (by omega)]
  · rw [mK_idR hk, if_neg (by omega)]

/-- A reduced matrix has at most as many rows as any matrix of the same space. -/
theorem rank_le {n : Nat} {a b : List (List Int)} (hn : n ≤ 40) (ha : VR n a) (hb : RM n b) (h : SameSp a.length (mK a) b.length (mK b)) : b.length ≤ a.length := by
  obtain ⟨g1, g2, g3⟩ := gj_red (k := n) hn ha
  have := RM.eq g1 hb ((g3 (Nat.le_refl _)).symm.trans h)
  rw [← this]
  exact g2

/-- A matrix beside the identity. -/
def augTo (m : List (List Int)) (n k : Nat) : List (List Int) := (List.range k).map fun i => m.getD i [] ++ uniR n i
theorem augTo_length (m : List (List Int)) (n k : Nat) : (augTo m n k).length = k := by simp [augTo]
theorem augTo_succ (m : List (List Int)) (n k : Nat) : augTo m n (k + 1) = augTo m n k ++ [m.getD k [] ++ uniR n k] := by simp [augTo, List.range_succ]
theorem augTo_getD {m : List (List Int)} {n k i : Nat} (hi : i < k) : (augTo m n k).getD i [] = m.getD i [] ++ uniR n i := by
  unfold augTo
  rw [List.getD_eq_getElem?_getD]
  simp [hi]
def aug (m : List (List Int)) : List (List Int) := augTo m m.length m.length
variable {m : List (List Int)}
theorem aug_length : (aug m).length = m.length := augTo_length _ _ _
theorem aug_VR (h : VR m.length m) (hn : m.length ≤ 20) : VR (2 * m.length) (aug m) := VR.mk' (by omega) fun i hi => by
  rw [aug_length] at hi
  obtain ⟨h1, h2, _⟩ := h.getD hi
  rw [aug, augTo_getD hi]
  refine ⟨fun x hx => (List.mem_append.1 hx).elim (h1 x) (uniR_AllEl _ _ x), ?_⟩
  rw [List.length_append, h2, uniR_length]
  omega
theorem mK_aug (h : VR m.length m) {i j : Nat} (hi : i < m.length) : mK (aug m) i j = if j < m.length then mK m i j else if j - m.length = i then 1 else 0 := by
  obtain ⟨h1, h2, _⟩ := h.getD hi
  show toK (ent ((aug m).getD i []) j) = _
  rw [aug, augTo_getD hi, ent_append, h2]
  split
  · rfl
  · rw [ent_uniR hi]
    split
    · exact toK_one
    · exact toK_zero
def tails (n : Nat) (q : List (List Int)) : List (List Int) := q.map (List.drop n)
theorem tails_length (n : Nat) (q : List (List Int)) : (tails n q).length = q.length := by simp [tails]
theorem tails_getD {n i : Nat} {q : List (List Int)} (hi : i < q.length) : (tails n q).getD i [] = (q.getD i []).drop n := by
  unfold tails
  rw [List.getD_eq_getElem?_getD, List.getElem?_map, getD_get hi]
  rfl
theorem mK_tails {n i j : Nat} {q : List (List Int)} (hi : i < q.length) : mK (tails n q) i j = mK q i (n + j) := by
  show toK (ent ((tails n q).getD i []) j) = _
  rw [tails_getD hi, ent_drop]
  rfl
theorem tails_VR {n : Nat} {q : List (List Int)} (hn : n ≤ 20) (h : VR (2 * n) q) : VR n (tails n q) := VR.mk' (by omega) fun i hi => by
  rw [tails_length] at hi
  obtain ⟨h1, h2, _⟩ := h.getD hi
  rw [tails_getD hi]
  refine ⟨fun x hx => h1 x (List.mem_of_mem_drop hx), ?_⟩
  rw [List.length_drop, h2]
  omega
theorem InSp.shift {r s : Nat} {R : Nat → Vec} {v : Vec} (n : Nat) (h : InSp r R v) : InSp r (fun i j => R i (n + j)) (fun j => v (n + j)) := by
  obtain ⟨f, hf⟩ := h
  exact ⟨f, fun j => hf _⟩
theorem InSp.congrR {r : Nat} {R S : Nat → Vec} {v : Vec} (h : InSp r R v) (e : ∀ i, i < r → ∀ j, R i j = S i j) : InSp r S v := by
  obtain ⟨f, hf⟩ := h
  exact ⟨f, fun j => by rw [hf]; exact sumN_congr fun i hi => by rw [e i hi]⟩
/-- The tails of a matrix of the same space as [m | 1] span everything: it has as many rows as m at least. -/
theorem aug_full (h : VR m.length m) (hn : m.length ≤ 20) {q : List (List Int)} (hq : VR (2 * m.length) q) (hs : SameSp (aug m).length (mK (aug m)) q.length (mK q)) : m.length ≤ q.length := by
  have ht := tails_VR hn hq
  have := rank_le (a := tails m.length q) (b := idR m.length) (by omega) ht (idR_RM (by omega)) ?_
  · rw [idR_length, tails_length] at this; exact this
  · rw [idR_length, tails_length]
    have key : ∀ i, i < m.length → ∀ j, mK (aug m) i (m.length + j) = mK (idR m.length) i j := fun i hi j => by
      rw [mK_aug h hi, if_neg (by omega), mK_idR hi, Nat.add_sub_cancel_left]
    constructor
    · intro i hi
      have h1 := (hs.2 i hi).shift (s := 0) m.length
      rw [aug_length] at h1
      refine (h1.congrR fun k hk j => key k hk j).congr fun j => ?_
      exact mK_tails hi
    · intro i hi
      have h1 := (hs.1 i (by rw [aug_length]; exact hi)).shift (s := 0) m.length
      refine (h1.congrR fun k hk j => (mK_tails hk).symm).congr fun j => (key i hi j).symm
theorem aug_rows (h : VR m.length m) (hn : m.length ≤ 20) : RM (2 * m.length) (gj (aug m) (2 * m.length)) ∧ (gj (aug m) (2 * m.length)).length = m.length ∧ SameSp (aug m).length (mK (aug m)) (gj (aug m) (2 * m.length)).length (mK (gj (aug m) (2 * m.length))) := by
  obtain ⟨g1, g2, g3⟩ := gj_red (k := 2 * m.length) (show 2 * m.length ≤ 40 by omega) (aug_VR h hn)
  have g3 := g3 (Nat.le_refl _)
  have := aug_full h hn g1.1 g3
  rw [aug_length] at g2
  exact ⟨g1, by omega, g3⟩
theorem mono_all {n : Nat} {P : Nat → Nat} (h : ∀ i j, i < j → j < n → P i < P j) (hp : ∀ i, i < n → P i < n) : ∀ i, i < n → P i = i := by
  have lo : ∀ i, i < n → i ≤ P i := by
    intro i
    induction i with
    | zero => intro _; omega
    | succ i ih =>
      intro hi
      have := ih (by omega)
      have := h i (i + 1) (by omega) hi
      omega
  have hi : ∀ d i, i + d + 1 = n → P i ≤ i := by
    intro d
    induction d with
    | zero => intro i hi; have := hp i (by omega); omega
    | succ d ih =>
      intro i hi
      have := ih (i + 1) (by omega)
      have := h i (i + 1) (by omega) (by omega)
      omega
  intro i h1
  have := lo i h1
  have := hi (n - i - 1) i (by omega)
  omega
/-- No row is dropped: the reduced matrix is the same over all columns, and its leads are in place. -/
theorem inv_yes (h : VR m.length m) (hn : m.length ≤ 20) (hl : (gj (aug m) m.length).length = m.length) :
    gj (aug m) m.length = gj (aug m) (2 * m.length) ∧ ∀ i, i < m.length → ld ((gj (aug m) (2 * m.length)).getD i []) = i := by
  obtain ⟨P, g⟩ := gj_inv (show 2 * m.length ≤ 40 by omega) (aug_VR h hn) m.length
  have hg0 : gj (aug m) m.length = (gjTo (aug m) m.length).1.take (gjTo (aug m) m.length).2 := rfl
  have hlen := g.len
  rw [aug_length] at hlen
  have hle := g.le
  have h2 : (gjTo (aug m) m.length).2 = m.length := by rw [hg0, List.length_take] at hl; omega
  have hg : gj (aug m) m.length = (gjTo (aug m) m.length).1 := by rw [hg0, List.take_of_length_le (by omega)]
  obtain ⟨r1, r2, _⟩ := gj_red (k := m.length) (show 2 * m.length ≤ 40 by omega) (aug_VR h hn)
  obtain ⟨a1, a2, a3⟩ := aug_rows h hn
  have e := RM.eq r1 a1 (by rw [hg]; exact g.sp.symm.trans a3)
  refine ⟨e, fun i hi => ?_⟩
  have hP : ∀ i, i < m.length → ld ((gj (aug m) m.length).getD i []) < m.length := fun i hi => by
    have hred : Red (gjTo (aug m) m.length).1.length (mK (gjTo (aug m) m.length).1) P := by
      refine ⟨fun i j h1 h2' => g.mono i j h1 (by omega), fun i h1 => g.one i (by omega), fun i h1 => g.zero i (by omega), fun i k h1 h3 h4 => g.other i k (by omega) (by omega) h4⟩
    have := Red.to_ld g.vr hred i (by omega)
    rw [hg, this]
    exact g.pk i (by omega)
  have hmono : ∀ i j, i < j → j < m.length → ld ((gj (aug m) m.length).getD i []) < ld ((gj (aug m) m.length).getD j []) := fun i j h1 h2' => r1.2.mono i j h1 (by omega)
  rw [← e]
  exact mono_all hmono hP i hi
/-- A row is dropped: then not all leads are in place. -/
theorem inv_no (h : VR m.length m) (hn : m.length ≤ 20) (hl : (gj (aug m) m.length).length ≠ m.length) : ∃ i, i < m.length ∧ ld ((gj (aug m) (2 * m.length)).getD i []) ≠ i := by
  obtain ⟨a1, a2, a3⟩ := aug_rows h hn
  apply Classical.byContradiction
  intro hno
  have hall : ∀ i, i < m.length → ld ((gj (aug m) (2 * m.length)).getD i []) = i := fun i hi => Classical.byContradiction fun e => hno ⟨i, hi, e⟩
  obtain ⟨P, g⟩ := gj_inv (show 2 * m.length ≤ 40 by omega) (aug_VR h hn) m.length
  have hlen := g.len
  rw [aug_length] at hlen
  have hle := g.le
  have h2 : (gjTo (aug m) m.length).2 < m.length := by
    have : gj (aug m) m.length = (gjTo (aug m) m.length).1.take (gjTo (aug m) m.length).2 := rfl
    rw [this, List.length_take] at hl
    omega
  have hz : ∀ l, (gjTo (aug m) m.length).2 ≤ l → l < m.length → ∀ j, mK (gjTo (aug m) m.length).1 l j = 0 := fun l h3 h4 => by
    have hin : InSp (gj (aug m) (2 * m.length)).length (mK (gj (aug m) (2 * m.length))) (mK (gjTo (aug m) m.length).1 l) := (g.sp.symm.trans a3).1 l (by omega)
    refine a1.2.inj hin fun i hi => ?_
    rw [hall i (by omega)]
    exact g.rest l h3 (by omega) i (by omega)
  have hsp : SameSp ((gjTo (aug m) m.length).1.take (gjTo (aug m) m.length).2).length (mK ((gjTo (aug m) m.length).1.take (gjTo (aug m) m.length).2)) (gj (aug m) (2 * m.length)).length (mK (gj (aug m) (2 * m.length))) := by
    refine SameSp.trans ?_ (g.sp.symm.trans a3)
    rw [List.length_take, Nat.min_eq_left hle]
    constructor
    · intro i hi
      rw [mK_take hi]
      exact InSp.row _ (by omega)
    · intro i hi
      by_cases hi2 : i < (gjTo (aug m) m.length).2
      · have := InSp.row (mK ((gjTo (aug m) m.length).1.take (gjTo (aug m) m.length).2)) hi2
        rw [mK_take hi2] at this
        exact this
      · exact (InSp.zero _ _).congr fun j => hz i (by omega) (by omega) j
  have htv : VR (2 * m.length) ((gjTo (aug m) m.length).1.take (gjTo (aug m) m.length).2) := fun xs hx => g.vr xs (List.mem_of_mem_take hx)
  have := rank_le (show 2 * m.length ≤ 40 by omega) htv a1 hsp
  rw [List.length_take] at this
  omega

def sqOk (m : List (List Int)) : Bool := validM m && (decide (m.length = cols m) && decide (m.length ≤ 20))
def invOk (m : List (List Int)) : Bool := sqOk m && decide ((gj (aug m) m.length).length = m.length)
def invM (m : List (List Int)) : List (List Int) := if invOk m then tails m.length (gj (aug m) m.length) else []
theorem sqOk_parts {m : List (List Int)} (h : sqOk m = true) : validM m = true ∧ m.length = cols m ∧ m.length ≤ 20 ∧ VR m.length m := by
  simp only [sqOk, Bool.and_eq_true, decide_eq_true_eq] at h
  obtain ⟨h1, h2, h3⟩ := h
  refine ⟨h1, h2, h3, ?_⟩
  have := (validM_true.1 h1).1
  rw [← h2] at this
  exact this
theorem invM_bound (m : List (List Int)) : (invM m).length ≤ 40 ∧ ∀ xs ∈ invM m, xs.length ≤ 40 := by
  unfold invM
  split
  · rename_i h
    unfold invOk at h
    simp only [Bool.and_eq_true, decide_eq_true_eq] at h
    obtain ⟨h1, h2, h3, h4⟩ := sqOk_parts h.1
    obtain ⟨r1, r2, _⟩ := gj_red (k := m.length) (show 2 * m.length ≤ 40 by omega) (aug_VR h4 h3)
    have ht := tails_VR h3 r1.1
    refine ⟨by rw [tails_length]; omega, fun xs hx => ?_⟩
    have := (ht xs hx).2
    omega
  · simp

end Go.Proofs.Ytninamlcffemoaa
