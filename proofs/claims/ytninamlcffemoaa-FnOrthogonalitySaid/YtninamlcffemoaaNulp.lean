/- Null spaces, plain: orthogonal, complete, of the right dimension. No program is named. -/
import Derived.Test.YtninamlcffemoaaNull
import Derived.Test.YtninamlcffemoaaInv
namespace Go.Proofs.Ytninamlcffemoaa
set_option linter.unusedVariables false
set_option maxRecDepth 20000

variable {n : Nat} {x : List (List Int)}
/-- The free columns, as numbers. -/
def fr (x : List (List Int)) (n : Nat) : List Nat := (List.range n).filter (isFree x)
theorem nullTo_fr (x : List (List Int)) (n : Nat) : nullTo x n n = (fr x n).map (nullV x n) := rfl
theorem nullTo_length (x : List (List Int)) (n : Nat) : (nullTo x n n).length = (fr x n).length := by rw [nullTo_fr, List.length_map]
theorem fr_get {i : Nat} (hi : i < (fr x n).length) : (fr x n).getD i 0 < n ∧ isFree x ((fr x n).getD i 0) = true := by
  have hm : (fr x n).getD i 0 ∈ fr x n := by
    rw [List.getD_eq_getElem?_getD, List.getElem?_eq_getElem hi]
    exact List.getElem_mem hi
  have := List.mem_filter.1 hm
  exact ⟨List.mem_range.1 this.1, this.2⟩
theorem fr_mono {i j : Nat} (h : i < j) (hj : j < (fr x n).length) : (fr x n).getD i 0 < (fr x n).getD j 0 := by
  have hp : (fr x n).Pairwise (fun a b => a < b) := List.Pairwise.filter _ List.pairwise_lt_range
  rw [List.getD_eq_getElem?_getD, List.getD_eq_getElem?_getD, List.getElem?_eq_getElem hj, List.getElem?_eq_getElem (by omega)]
  exact List.pairwise_iff_getElem.1 hp i j (by omega) hj h
theorem fr_hit {j : Nat} (hj : j < n) (h : isFree x j = true) : ∃ i, i < (fr x n).length ∧ (fr x n).getD i 0 = j := by
  have hm : j ∈ fr x n := List.mem_filter.2 ⟨List.mem_range.2 hj, h⟩
  obtain ⟨i, hi, he⟩ := List.mem_iff_getElem.1 hm
  exact ⟨i, hi, by rw [List.getD_eq_getElem?_getD, List.getElem?_eq_getElem hi, ← he]; rfl⟩
theorem nullTo_getD {i : Nat} (hi : i < (fr x n).length) : (nullTo x n n).getD i [] = nullV x n ((fr x n).getD i 0) := by
  rw [nullTo_fr, List.getD_eq_getElem?_getD, List.getElem?_map, List.getD_eq_getElem?_getD, List.getElem?_eq_getElem hi]
  rfl
theorem not_free {j : Nat} (h : isFree x j = false) : ∃ t, t < x.length ∧ ld (x.getD t []) = j := by
  apply Classical.byContradiction
  intro hno
  have : isFree x j = true := by
    unfold isFree
    refine List.all_eq_true.2 fun r hr => ?_
    obtain ⟨t, ht, he⟩ := List.mem_iff_getElem.1 hr
    refine decide_eq_true fun e => hno ⟨t, ht, ?_⟩
    rw [List.getD_eq_getElem?_getD, List.getElem?_eq_getElem ht, he]
    exact e
  rw [this] at h
  cases h
/-- A null vector, in the field. -/
theorem nullV_lead (h : RM n x) {f t : Nat} (hf : isFree x f = true) (ht : t < x.length) : vK (nullV x n f) (ld (x.getD t [])) = 0 - mK x t f := by
  have hlt := h.ld_lt ht
  show toK (ent (nullV x n f) _) = _
  have : (nullV x n f)[ld (x.getD t [])]? = some (nullE x f (ld (x.getD t []))) := by unfold nullV; simp only [List.getElem?_map, List.getElem?_range hlt, Option.map_some]
  rw [ent_some this]
  unfold nullE
  rw [if_neg (isFree_ne hf ht), find_ld h ht]
  show toK ((0 - ent (x.getD t []) f) % 1019) = _
  rw [toK_mod, toK_sub, toK_zero]
  rfl
theorem nullV_free {f j : Nat} (hj : j < n) (hf : isFree x j = true) : vK (nullV x n f) j = if j = f then 1 else 0 := by
  show toK (ent (nullV x n f) _) = _
  have : (nullV x n f)[j]? = some (nullE x f j) := by unfold nullV; simp only [List.getElem?_map, List.getElem?_range hj, Option.map_some]
  rw [ent_some this]
  unfold nullE
  split
  · exact toK_one
  · rw [List.find?_eq_none.2 (fun r hr => by
      unfold isFree at hf
      have := List.all_eq_true.1 hf r hr
      simpa using this)]
    exact toK_zero
/-- A sum over all columns: the leads and the free ones. -/
theorem sum_split (h : RM n x) (g : Nat → K) : sumN n g = sumN x.length (fun t => g (ld (x.getD t []))) + sumN (fr x n).length (fun i => g ((fr x n).getD i 0)) := by
  have e : ∀ j, j < n → g j = sumN x.length (fun t => if ld (x.getD t []) = j then g j else 0) + sumN (fr x n).length (fun i => if (fr x n).getD i 0 = j then g j else 0) := fun j hj => by
    cases hf : isFree x j
    · obtain ⟨t, ht, he⟩ := not_free hf
      rw [sumN_one ht (fun i hi hne => if_neg (fun e => by
        rcases Nat.lt_or_ge i t with h1 | h1
        · have := h.2.mono i t h1 ht; omega
        · have := h.2.mono t i (by omega) hi; omega)), if_pos he]
      rw [sumN_zero (n := (fr x n).length) (fun i hi => if_neg (fun e => by
        have := (fr_get hi).2
        rw [e, hf] at this
        cases this))]
      grind
    · obtain ⟨t, ht, he⟩ := fr_hit hj hf
      rw [sumN_zero (n := x.length) (fun i hi => if_neg (isFree_ne hf hi))]
      rw [sumN_one ht (fun i hi hne => if_neg (fun e => by
        rcases Nat.lt_or_ge i t with h1 | h1
        · have := fr_mono h1 ht; omega
        · have := fr_mono (show t < i by omega) hi; omega)), if_pos he]
      grind
  rw [sumN_congr e, sumN_add, sumN_comm, sumN_comm n]
  congr 1
  · refine sumN_congr fun t ht => ?_
    rw [sumN_one (h.ld_lt ht) (fun j hj hne => if_neg (fun e => hne e.symm)), if_pos rfl]
  · refine sumN_congr fun i hi => ?_
    rw [sumN_one (fr_get hi).1 (fun j hj hne => if_neg (fun e => hne e.symm)), if_pos rfl]
/-- The number of free columns. -/
theorem fr_count (h : RM n x) : (fr x n).length + x.length = n := by
  have key : ∀ k, k ≤ n → ((List.range k).filter (isFree x)).length + (x.filter (fun r => decide (ld r < k))).length = k := by
    intro k
    induction k with
    | zero => intro _; simp
    | succ k ih =>
      intro hk
      have h1 := ih (by omega)
      have hsplit : ∀ l : List (List Int), (l.filter (fun r => decide (ld r < k + 1))).length = (l.filter (fun r => decide (ld r < k))).length + (l.filter (fun r => decide (ld r = k))).length := by
        intro l
        induction l with
        | nil => rfl
        | cons r l ihl =>
          rw [List.filter_cons, List.filter_cons, List.filter_cons]
          by_cases c1 : ld r < k
          · rw [if_pos (decide_eq_true (by omega)), if_pos (decide_eq_true c1), if_neg (by simp; omega), List.length_cons, List.length_cons, ihl]
            omega
          · by_cases c2 : ld r = k
            · rw [if_pos (decide_eq_true (by omega)), if_neg (by simp; omega), if_pos (decide_eq_true c2), List.length_cons, List.length_cons, ihl]
              omega
            · rw [if_neg (by simp; omega), if_neg (by simp; omega), if_neg (by simp; omega), ihl]
      have hone : (x.filter (fun r => decide (ld r = k))).length = if isFree x k then 0 else 1 := by
        cases hf : isFree x k
        · obtain ⟨t, ht, he⟩ := not_free hf
          have hp : x.Pairwise (fun a b => ld a < ld b) := List.pairwise_iff_getElem.2 fun i j hi hj hij => by
            have := h.2.mono i j hij hj
            rw [List.getD_eq_getElem?_getD, List.getD_eq_getElem?_getD, List.getElem?_eq_getElem hi, List.getElem?_eq_getElem hj] at this
            exact this
          have hp2 := hp.filter (fun r => decide (ld r = k))
          have hmem : x.getD t [] ∈ x.filter (fun r => decide (ld r = k)) := List.mem_filter.2 ⟨List.mem_of_getElem? (getD_get ht), decide_eq_true he⟩
          have hall : ∀ r ∈ x.filter (fun r => decide (ld r = k)), ld r = k := fun r hr => of_decide_eq_true (List.mem_filter.1 hr).2
          generalize x.filter (fun r => decide (ld r = k)) = l at *
          match l, hp2, hmem, hall with
          | [], _, hm, _ => simp at hm
          | [_], _, _, _ => rfl
          | p :: q :: _, hp2, _, hall =>
            have h1 := (List.pairwise_cons.1 hp2).1 q (by simp)
            have h2 := hall p (by simp)
            have h3 := hall q (by simp)
            omega
        · rw [List.filter_eq_nil_iff.2 (fun r hr => by
            unfold isFree at hf
            have := List.all_eq_true.1 hf r hr
            simpa using this)]
          rfl
      rw [List.range_succ, List.filter_append, List.length_append, hsplit, hone]
      cases hf : isFree x k
      · simp [hf]; omega
      · simp [hf]; omega
  have := key n (Nat.le_refl _)
  have hfl : x.filter (fun r => decide (ld r < n)) = x := List.filter_eq_self.2 (fun r hr => by
    obtain ⟨t, ht, he⟩ := List.mem_iff_getElem.1 hr
    have := h.ld_lt ht
    rw [List.getD_eq_getElem?_getD, List.getElem?_eq_getElem ht] at this
    rw [he] at this
    exact decide_eq_true this)
  rw [hfl] at this
  exact this
def dotN (n : Nat) (u v : Vec) : K := sumN n (fun j => u j * v j)
theorem dotN_add (n : Nat) (u v z : Vec) (k : K) : dotN n (fun j => u j + k * v j) z = dotN n u z + k * dotN n v z := by
  unfold dotN
  rw [← sumN_mul, ← sumN_add]
  exact sumN_congr fun i _ => by grind
theorem dotN_comm (n : Nat) (u v : Vec) : dotN n u v = dotN n v u := sumN_congr fun i _ => by grind
/-- What is orthogonal to rows is orthogonal to their space. -/
theorem dotN_sp {r : Nat} {R : Nat → Vec} {v u : Vec} (n : Nat) (h : InSp r R v) (hz : ∀ i, i < r → dotN n (R i) u = 0) : dotN n v u = 0 := by
  obtain ⟨f, hf⟩ := h
  unfold dotN
  have e1 : sumN n (fun j => v j * u j) = sumN n (fun j => sumN r (fun i => f i * (R i j * u j))) := sumN_congr fun j _ => by
    rw [hf j, show sumN r (fun i => f i * (R i j * u j)) = u j * sumN r (fun i => f i * R i j) by rw [← sumN_mul]; exact sumN_congr fun i _ => by grind]
    grind
  rw [e1, sumN_comm]
  refine sumN_zero fun i hi => ?_
  rw [sumN_mul]
  have := hz i hi
  unfold dotN at this
  rw [this]
  grind
/-- The null vectors are orthogonal to the rows. -/
theorem null_orth (h : RM n x) {k f : Nat} (hk : k < x.length) (hf : isFree x f = true) (hfn : f < n) : dotN n (mK x k) (vK (nullV x n f)) = 0 := by
  unfold dotN
  rw [sum_split h]
  have e1 : sumN x.length (fun t => mK x k (ld (x.getD t [])) * vK (nullV x n f) (ld (x.getD t []))) = 0 - mK x k f := by
    rw [sumN_one hk (fun t ht hne => by rw [h.2.other t k ht hk (fun e => hne e.symm)]; grind)]
    rw [nullV_lead h hf hk, h.2.one k hk]
    grind
  obtain ⟨s, hs, hse⟩ := fr_hit hfn hf
  have e2 : sumN (fr x n).length (fun i => mK x k ((fr x n).getD i 0) * vK (nullV x n f) ((fr x n).getD i 0)) = mK x k f := by
    rw [sumN_one hs (fun i hi hne => by
      rw [nullV_free (fr_get hi).1 (fr_get hi).2, if_neg (fun e => by
        rcases Nat.lt_or_ge i s with h1 | h1
        · have := fr_mono h1 hs; omega
        · have := fr_mono (show s < i by omega) hi; omega)]
      grind)]
    rw [hse, nullV_free hfn hf, if_pos rfl]
    grind
  rw [e1, e2]
  grind
theorem null_orth_sp (h : RM n x) {k : Nat} {v : Vec} (hk : k < x.length) (hv : InSp (nullTo x n n).length (mK (nullTo x n n)) v) : dotN n v (mK x k) = 0 :=
  dotN_sp n hv fun i hi => by
    rw [nullTo_length] at hi
    show dotN n (vK ((nullTo x n n).getD i [])) _ = 0
    rw [nullTo_getD hi, dotN_comm]
    exact null_orth h hk (fr_get hi).2 (fr_get hi).1
/-- Whatever is orthogonal to the rows is a combination of the null vectors. -/
theorem null_complete (h : RM n x) {u : Vec} (hn : ∀ j, n ≤ j → u j = 0) (hz : ∀ k, k < x.length → dotN n (mK x k) u = 0) : InSp (nullTo x n n).length (mK (nullTo x n n)) u := by
  refine ⟨fun i => u ((fr x n).getD i 0), fun j => ?_⟩
  rw [nullTo_length]
  have e0 : sumN (fr x n).length (fun i => u ((fr x n).getD i 0) * mK (nullTo x n n) i j) = sumN (fr x n).length (fun i => u ((fr x n).getD i 0) * vK (nullV x n ((fr x n).getD i 0)) j) := sumN_congr fun i hi => by
    show _ * vK ((nullTo x n n).getD i []) j = _
    rw [nullTo_getD hi]
  rw [e0]
  rcases Nat.lt_or_ge j n with hj | hj
  · cases hf : isFree x j
    · obtain ⟨t, ht, he⟩ := not_free hf
      have := hz t ht
      unfold dotN at this
      rw [sum_split h] at this
      rw [sumN_one ht (fun s hs hne => by rw [h.2.other s t hs ht (fun e => hne e.symm)]; grind), h.2.one t ht, he] at this
      have e1 : sumN (fr x n).length (fun i => u ((fr x n).getD i 0) * vK (nullV x n ((fr x n).getD i 0)) j) = 0 - sumN (fr x n).length (fun i => mK x t ((fr x n).getD i 0) * u ((fr x n).getD i 0)) := by
        rw [show (0 : K) - sumN (fr x n).length (fun i => mK x t ((fr x n).getD i 0) * u ((fr x n).getD i 0)) = (0 - 1) * sumN (fr x n).length (fun i => mK x t ((fr x n).getD i 0) * u ((fr x n).getD i 0)) by grind, ← sumN_mul]
        refine sumN_congr fun i hi => ?_
        rw [← he, nullV_lead h (fr_get hi).2 ht]
        grind
      rw [e1]
      grind
    · obtain ⟨s, hs, hse⟩ := fr_hit hj hf
      rw [sumN_one hs (fun i hi hne => by
        rw [nullV_free hj hf, if_neg (fun e => by
          rcases Nat.lt_or_ge i s with h1 | h1
          · have := fr_mono h1 hs; omega
          · have := fr_mono (show s < i by omega) hi; omega)]
        grind)]
      rw [hse, nullV_free hj hf, if_pos rfl]
      grind
  · rw [hn j hj]
    refine (sumN_zero fun i hi => ?_).symm
    rw [vK_out (by rw [nullV_length]; exact hj)]
    grind
/-- Whatever is orthogonal to the null vectors is a combination of the rows. -/
theorem perp_null (h : RM n x) {v : Vec} (hn : ∀ j, n ≤ j → v j = 0) (hz : ∀ i, i < (fr x n).length → dotN n v (vK (nullV x n ((fr x n).getD i 0))) = 0) : InSp x.length (mK x) v := by
  refine ⟨fun t => v (ld (x.getD t [])), fun j => ?_⟩
  rcases Nat.lt_or_ge j n with hj | hj
  · cases hf : isFree x j
    · obtain ⟨t, ht, he⟩ := not_free hf
      rw [sumN_one ht (fun s hs hne => by rw [← he, h.2.other t s ht hs hne]; grind), ← he, h.2.one t ht]
      grind
    · obtain ⟨s, hs, hse⟩ := fr_hit hj hf
      have := hz s hs
      unfold dotN at this
      rw [sum_split h] at this
      have e2 : sumN (fr x n).length (fun i => v ((fr x n).getD i 0) * vK (nullV x n ((fr x n).getD s 0)) ((fr x n).getD i 0)) = v j := by
        rw [sumN_one hs (fun i hi hne => by
          rw [nullV_free (fr_get hi).1 (fr_get hi).2, if_neg (fun e => by
            rcases Nat.lt_or_ge i s with h1 | h1
            · have := fr_mono h1 hs; omega
            · have := fr_mono (show s < i by omega) hi; omega)]
          grind)]
        rw [nullV_free (fr_get hs).1 (fr_get hs).2, if_pos rfl, hse]
        grind
      have e1 : sumN x.length (fun t => v (ld (x.getD t [])) * vK (nullV x n ((fr x n).getD s 0)) (ld (x.getD t []))) = 0 - sumN x.length (fun t => v (ld (x.getD t [])) * mK x t j) := by
        rw [show (0 : K) - sumN x.length (fun t => v (ld (x.getD t [])) * mK x t j) = (0 - 1) * sumN x.length (fun t => v (ld (x.getD t [])) * mK x t j) by grind, ← sumN_mul]
        refine sumN_congr fun t ht => ?_
        rw [nullV_lead h (fr_get hs).2 ht, hse]
        grind
      rw [e1, e2] at this
      grind
  · rw [hn j hj]
    refine (sumN_zero fun t ht => ?_).symm
    have : mK x t j = 0 := vK_out (by rw [(h.1.getD ht).2.1]; exact hj)
    rw [this]
    grind

end Go.Proofs.Ytninamlcffemoaa
