/- Plain: coefficients read back from their bytes, dense or sparse. No program is named here. -/
import Derived.Test.YtkegknophppdgaaDcp
import Derived.Test.YtkegknophppdgaaEnc3
namespace Go.Proofs.Ytkegknophppdgaa
set_option linter.unusedVariables false
set_option maxRecDepth 20000

/-- Gaps and values, as the numbers that the sparse form holds; and the vector that they tell. -/
def flatP (ps : List (Nat × Int)) : List Int := ps.flatMap fun p => [(p.1 : Int), p.2]
def unP (ps : List (Nat × Int)) : List Int := ps.flatMap fun p => List.replicate p.1 0 ++ [p.2]
theorem flatP_snoc (ps : List (Nat × Int)) (g : Nat) (x : Int) : flatP (ps ++ [(g, x)]) = flatP ps ++ [(g : Int), x] := by simp [flatP]
theorem unP_snoc (ps : List (Nat × Int)) (g : Nat) (x : Int) : unP (ps ++ [(g, x)]) = unP ps ++ (List.replicate g 0 ++ [x]) := by simp [unP]
theorem unP_append (ps qs : List (Nat × Int)) : unP (ps ++ qs) = unP ps ++ unP qs := by simp [unP]
theorem flatP_append (ps qs : List (Nat × Int)) : flatP (ps ++ qs) = flatP ps ++ flatP qs := by simp [flatP]
theorem flatP_length (ps : List (Nat × Int)) : (flatP ps).length = 2 * ps.length := by
  induction ps with
  | nil => rfl
  | cons p r ih => rw [show p :: r = [p] ++ r by rfl, flatP_append, List.length_append, ih]; simp [flatP]; omega
theorem flatP_inj {ps qs : List (Nat × Int)} (h : flatP ps = flatP qs) : ps = qs := by
  induction ps generalizing qs with
  | nil =>
    have := congrArg List.length h
    rw [flatP_length, flatP_length] at this
    simp at this
    cases qs with
    | nil => rfl
    | cons q r => simp at this
  | cons p r ih =>
    cases qs with
    | nil =>
      have := congrArg List.length h
      rw [flatP_length, flatP_length] at this
      simp at this
    | cons q s =>
      rw [show p :: r = [p] ++ r by rfl, show q :: s = [q] ++ s by rfl, flatP_append, flatP_append] at h
      simp [flatP] at h
      obtain ⟨h1, h2, h3⟩ := h
      rw [ih (qs := s) (by simpa [flatP] using h3)]
      obtain ⟨p1, p2⟩ := p
      obtain ⟨q1, q2⟩ := q
      simp at h1 h2
      rw [h2, show p1 = q1 by omega]

theorem cnz_append (xs ys : List Int) : cnz (xs ++ ys) = cnz xs + cnz ys := by simp [cnz, List.filter_append]
theorem cnz_zeros (z : Nat) : cnz (List.replicate z 0) = 0 := by simp [cnz]

/-- Every vector is told by gaps and values. -/
theorem sp_tell (v : List Int) (k : Nat) : ∃ ps z, (spTo v k) = (flatP ps, z) ∧ v.take k = unP ps ++ List.replicate z 0 ∧ (∀ p ∈ ps, p.2 ≠ 0) := by
  induction k with
  | zero => exact ⟨[], 0, by simp [spTo, flatP], by simp [unP], by simp⟩
  | succ k ih =>
    obtain ⟨ps, z, h1, h2, h3⟩ := ih
    rcases Nat.lt_or_ge k v.length with hlt | hge
    · have hx : v[k]? = some v[k] := List.getElem?_eq_getElem hlt
      have ht : v.take (k + 1) = v.take k ++ [v[k]] := by rw [List.take_add_one, hx]; rfl
      by_cases h0 : v[k] = 0
      · refine ⟨ps, z + 1, by rw [spTo_yes hx h0, h1], ?_, h3⟩
        rw [ht, h2, h0, List.append_assoc]
        congr 1
        rw [List.replicate_succ']
      · refine ⟨ps ++ [(z, v[k])], 0, by rw [spTo_no hx h0, h1, flatP_snoc], ?_, ?_⟩
        · rw [ht, h2, unP_snoc]; simp
        · intro p hp
          simp at hp
          rcases hp with hp | rfl
          · exact h3 p hp
          · exact h0
    · refine ⟨ps, z, ?_, ?_, h3⟩
      · rw [← h1]
        unfold spTo
        rw [List.take_of_length_le (by omega), List.take_of_length_le hge]
      · rw [← h2, List.take_of_length_le (by omega), List.take_of_length_le hge]
theorem cnz_unP {ps : List (Nat × Int)} (h : ∀ p ∈ ps, p.2 ≠ 0) : cnz (unP ps) = ps.length := by
  induction ps with
  | nil => rfl
  | cons p r ih =>
    rw [show p :: r = [p] ++ r by rfl, unP_append, cnz_append, ih (fun q hq => h q (by simp [hq]))]
    have : p.2 ≠ 0 := h p (by simp)
    simp [unP, cnz, this]
    omega
theorem sp_tells (v : List Int) : ∃ ps z, sp v = flatP ps ∧ v = unP ps ++ List.replicate z 0 ∧ (∀ p ∈ ps, p.2 ≠ 0) ∧ cnz v = ps.length := by
  obtain ⟨ps, z, h1, h2, h3⟩ := sp_tell v v.length
  rw [List.take_length] at h2
  refine ⟨ps, z, by unfold sp; rw [h1], h2, h3, ?_⟩
  rw [h2, cnz_append, cnz_zeros, cnz_unP h3]; rfl

theorem spStep_zeros (acc : List Int) (s g : Nat) : (List.replicate g (0 : Int)).foldl spStep (acc, s) = (acc, s + g) := by
  induction g generalizing s with
  | zero => rfl
  | succ g ih =>
    rw [List.replicate_succ, List.foldl_cons]
    show (List.replicate g (0 : Int)).foldl spStep (spStep (acc, s) 0) = _
    rw [show spStep (acc, s) 0 = (acc, s + 1) by simp [spStep], ih]
    congr 1
    omega
theorem spStep_unP {ps : List (Nat × Int)} (h : ∀ p ∈ ps, p.2 ≠ 0) : ∀ acc, (unP ps).foldl spStep (acc, 0) = (acc ++ flatP ps, 0) := by
  induction ps with
  | nil => intro acc; simp [unP, flatP]
  | cons p r ih =>
    intro acc
    have hp : p.2 ≠ 0 := h p (by simp)
    rw [show p :: r = [p] ++ r by rfl, unP_append, flatP_append, List.foldl_append]
    have e : unP [p] = List.replicate p.1 0 ++ [p.2] := by simp [unP]
    rw [e, List.foldl_append, spStep_zeros, List.foldl_cons, List.foldl_nil]
    rw [show spStep (acc, 0 + p.1) p.2 = (acc ++ [((0 + p.1 : Nat) : Int), p.2], 0) by simp [spStep, hp], ih (fun q hq => h q (by simp [hq]))]
    simp [flatP]
/-- And what tells it is found again. -/
theorem sp_unP {ps : List (Nat × Int)} (h : ∀ p ∈ ps, p.2 ≠ 0) (z : Nat) : sp (unP ps ++ List.replicate z 0) = flatP ps ∧ cnz (unP ps ++ List.replicate z 0) = ps.length := by
  constructor
  · unfold sp spTo
    rw [List.take_length, List.foldl_append, spStep_unP h, spStep_zeros]
    simp
  · rw [cnz_append, cnz_zeros, cnz_unP h]; rfl

theorem rdTo_two {b : List Int} {t j e : Nat} {l : List Int} (h : rdTo b t j = some (l, e)) : rdTo b t (j + 2) = match rdTo b e 2 with | none => none | some (m, e') => some (l ++ m, e') := by
  cases h1 : rdU b e with
  | none => simp [rdTo, h, h1]
  | some p =>
    cases h2 : rdU b (e + p.2) with
    | none => simp [rdTo, h, h1, h2]
    | some q => simp [rdTo, h, h1, h2]
theorem rdTo_prefix {b r : List Int} {t : Nat} {l m : List Int} (hl : AllR (l ++ m)) (h : b.drop t = encInts (l ++ m) ++ r) : rdTo b t l.length = some (l, t + (encInts l).length) := by
  refine rdTo_complete l (encInts m ++ r) (fun x hx => hl x (by simp [hx])) ?_
  rw [h, encInts_append, List.append_assoc]

/-- From t on stand the number of values and then the gaps and values of v, and no more. -/
def SpAt (b : List Int) (t : Nat) (v : List Int) : Prop := b.drop t = uv (cnz v) ++ encInts (sp v)
theorem flatP_AllR {ps : List (Nat × Int)} {v : List Int} {z : Nat} (h : v = unP ps ++ List.replicate z 0) (hv : validV v = true) : AllR (flatP ps) := by
  obtain ⟨hv1, hv2⟩ := validV_true.1 hv
  intro x hx
  simp only [flatP, List.mem_flatMap] at hx
  obtain ⟨p, hp, hx⟩ := hx
  obtain ⟨s, t, rfl⟩ := List.append_of_mem hp
  have e : unP (s ++ p :: t) = unP s ++ (List.replicate p.1 0 ++ [p.2] ++ unP t) := by
    rw [show s ++ p :: t = s ++ ([p] ++ t) by simp, unP_append, unP_append]; simp [unP]
  rw [e] at h
  simp at hx
  rcases hx with rfl | rfl
  · have := congrArg List.length h
    simp at this
    exact inR_true.2 ⟨by omega, by omega⟩
  · have := inR_true.1 (hv1 p.2 (by rw [h]; simp))
    exact inR_true.2 ⟨by omega, by omega⟩

/-- What the sparse form of a valid vector must show to whom reads it pair by pair. -/
theorem spAt_parts {b v : List Int} {t : Nat} (hv : validV v = true) (h : SpAt b t v) : ∃ ps z c, rdU b t = some ((ps.length : Int), c) ∧ v = unP ps ++ List.replicate z 0 ∧ (∀ p ∈ ps, p.2 ≠ 0) ∧ cnz v = ps.length ∧ ps.length ≤ v.length ∧ b.drop (t + c) = encInts (flatP ps) ∧
    (∀ i, i ≤ ps.length → rdTo b (t + c) (2 * i) = some (flatP (ps.take i), t + c + (encInts (flatP (ps.take i))).length)) := by
  obtain ⟨ps, z, h1, h2, h3, h4⟩ := sp_tells v
  have hA := flatP_AllR h2 hv
  have hl := (validV_true.1 hv).2
  have hc := cnz_le v
  unfold SpAt at h
  rw [h4, h1] at h
  have hn : inR (ps.length : Int) 0 1000000000000 = true := inR_true.2 ⟨by omega, by omega⟩
  have hd := drop_add_of h
  refine ⟨ps, z, _, rdU_complete hn h, h2, h3, h4, by omega, hd, fun i hi => ?_⟩
  have e : flatP ps = flatP (ps.take i) ++ flatP (ps.drop i) := by rw [← flatP_append, List.take_append_drop]
  have := rdTo_prefix (b := b) (r := []) (t := t + (uv (ps.length : Int)).length) (l := flatP (ps.take i)) (m := flatP (ps.drop i)) (by rw [← e]; exact hA) (by rw [← e, List.append_nil]; exact hd)
  rw [flatP_length, List.length_take, Nat.min_eq_left hi] at this
  exact this

/-- A reader that has read i pairs, and for whom a valid vector v stands there. -/
theorem spAt_step {b v : List Int} {t c e : Nat} {k : Int} {qs : List (Nat × Int)} (hv : validV v = true) (h : SpAt b t v) (hk : rdU b t = some (k, c)) (hq : rdTo b (t + c) (2 * qs.length) = some (flatP qs, e)) (hi : qs.length ≤ k.toNat) :
    k = (cnz v : Int) ∧ k.toNat ≤ v.length ∧ (qs.length = k.toNat → v = unP qs ++ List.replicate (v.length - (unP qs).length) 0 ∧ b.length ≤ e) ∧
    (qs.length < k.toNat → ∃ (g : Nat) (x : Int) (e' : Nat), rdTo b e 2 = some ([(g : Int), x], e') ∧ x ≠ 0 ∧ (unP qs).length + g < v.length ∧ rdTo b (t + c) (2 * (qs ++ [(g, x)]).length) = some (flatP (qs ++ [(g, x)]), e')) := by
  obtain ⟨ps, z, c', p1, p2, p3, p4, p5, p6, p7⟩ := spAt_parts hv h
  rw [hk] at p1
  simp only [Option.some.injEq, Prod.mk.injEq] at p1
  obtain ⟨rfl, rfl⟩ := p1
  rw [Int.toNat_natCast] at hi ⊢
  have q1 := p7 _ hi
  rw [hq] at q1
  simp only [Option.some.injEq, Prod.mk.injEq] at q1
  obtain ⟨q1, q2⟩ := q1
  have q3 := flatP_inj q1
  refine ⟨by rw [p4], p5, fun hf => ?_, fun hlt => ?_⟩
  · rw [hf, List.take_length] at q3
    subst q3
    refine ⟨?_, ?_⟩
    · have hl : v.length = (unP qs).length + z := by rw [p2]; simp
      rw [hl, Nat.add_sub_cancel_left]
      exact p2
    · rw [q2, hf, List.take_length]
      have := congrArg List.length p6
      simp at this
      omega
  · have hp : ps[qs.length]? = some ps[qs.length] := List.getElem?_eq_getElem hlt
    have q4 : ps.take (qs.length + 1) = qs ++ [ps[qs.length]] := by rw [List.take_add_one, hp, ← q3]; rfl
    have q5 := p7 (qs.length + 1) (by omega)
    obtain ⟨g, x, hpe⟩ : ∃ g x, ps[qs.length] = (g, x) := ⟨_, _, rfl⟩
    rw [hpe] at q4 hp
    rw [q4, show 2 * (qs.length + 1) = 2 * qs.length + 2 by omega, rdTo_two hq] at q5
    cases h2 : rdTo b e 2 with
    | none => rw [h2] at q5; cases q5
    | some r =>
      obtain ⟨m, e'⟩ := r
      rw [h2] at q5
      simp only [Option.some.injEq, Prod.mk.injEq] at q5
      obtain ⟨q6, q7⟩ := q5
      rw [flatP_snoc] at q6
      have q8 := List.append_cancel_left q6
      subst q8
      refine ⟨g, x, e', rfl, p3 (g, x) (List.mem_of_getElem? hp), ?_, ?_⟩
      · have e1 : ps = qs ++ [(g, x)] ++ ps.drop (qs.length + 1) := by rw [← q4, List.take_append_drop]
        rw [p2, e1, unP_append, unP_append]
        simp [unP]
      · rw [List.length_append, List.length_singleton, show 2 * (qs.length + 1) = 2 * qs.length + 2 by omega, rdTo_two hq, h2, flatP_snoc]

/-- What a reader has found, if all of it fits, is a vector whose sparse form stands there. -/
theorem spAt_of {b : List Int} {t c : Nat} {k : Int} {qs : List (Nat × Int)} (hB : AllB b) (hk : rdU b t = some (k, c)) (hq : rdTo b (t + c) (2 * qs.length) = some (flatP qs, b.length)) (hl : qs.length = k.toNat) (h0 : ∀ p ∈ qs, p.2 ≠ 0) (z : Nat) :
    SpAt b t (unP qs ++ List.replicate z 0) := by
  obtain ⟨s1, s2⟩ := sp_unP h0 z
  obtain ⟨r1, r2, r3⟩ := rdU_sound hB hk
  obtain ⟨_, _, t3, _⟩ := rdTo_sound hB _ _ _ hq
  rw [List.drop_length, List.append_nil] at t3
  unfold SpAt
  have := (inR_true.1 r1).1
  rw [s1, s2, r2, t3, hl, Int.toNat_of_nonneg this]

open Classical in
/-- The vector that these bytes tell, in one of both forms. -/
noncomputable def decCo (b : List Int) : Option (List Int) :=
  if h : ∃ v : List Int, validV v = true ∧ (encDense v = b ∨ encSparse v = b) then some (Classical.choose h) else none

theorem encInts_two (x : Int) (xs : List Int) : encInts (x :: xs) = uv x ++ encInts xs := encInts_cons x xs
theorem dense_parts {v b : List Int} (h : validV v = true) (he : encDense v = b) : ∃ e, rdTo b 0 2 = some ([0, (v.length : Int)], e) ∧ rdTo b e v.length = some (v, b.length) ∧ e ≤ b.length ∧ b[0]? = some 0 ∧ rdU b 1 = some ((v.length : Int), e - 1) ∧ 1 ≤ e := by
  obtain ⟨hv1, hv2⟩ := validV_true.1 h
  rw [encDense_yes h, show (0 : Int) :: (v.length : Int) :: v = [0, (v.length : Int)] ++ v by rfl, encInts_append] at he
  have a0 : AllR [0, (v.length : Int)] := fun x hx => by
    simp at hx
    rcases hx with rfl | rfl <;> exact inR_true.2 ⟨by omega, by omega⟩
  have d0 : b.drop 0 = encInts [0, (v.length : Int)] ++ encInts v := by rw [List.drop_zero]; exact he.symm
  have r0 := rdTo_complete _ _ a0 d0
  have d1 := drop_add_of d0
  have r1 := rdTo_complete v [] hv1.allR (by rw [List.append_nil]; exact d1)
  have e2 : encInts [0, (v.length : Int)] = 0 :: uv v.length := by rw [encInts_cons, encInts_cons, uv_zero]; simp [encInts]
  have hl : b.length = (encInts [0, (v.length : Int)]).length + (encInts v).length := by rw [← he]; simp
  have hd : b.drop 1 = uv v.length ++ encInts v := by rw [← he, e2]; rfl
  refine ⟨_, r0, ?_, by omega, by rw [← he, e2]; rfl, ?_, ?_⟩
  · rw [r1]; congr 2; omega
  · rw [rdU_complete (a0 _ (by simp)) hd, e2]; simp
  · rw [e2]; simp
theorem sparse_parts {v b : List Int} (h : validV v = true) (he : encSparse v = b) : ∃ e, rdTo b 0 2 = some ([1, (v.length : Int)], e) ∧ SpAt b e v ∧ e ≤ b.length ∧ b[0]? = some 1 ∧ rdU b 1 = some ((v.length : Int), e - 1) ∧ 1 ≤ e := by
  obtain ⟨hv1, hv2⟩ := validV_true.1 h
  rw [encSparse_yes h, show [(1 : Int), (v.length : Int), (cnz v : Int)] ++ sp v = [1, (v.length : Int)] ++ ((cnz v : Int) :: sp v) by rfl, encInts_append, encInts_cons (cnz v : Int)] at he
  have a0 : AllR [1, (v.length : Int)] := fun x hx => by
    simp at hx
    rcases hx with rfl | rfl <;> exact inR_true.2 ⟨by omega, by omega⟩
  have d0 : b.drop 0 = encInts [1, (v.length : Int)] ++ (uv (cnz v) ++ encInts (sp v)) := by rw [List.drop_zero]; exact he.symm
  have r0 := rdTo_complete _ _ a0 d0
  have d1 := drop_add_of d0
  have e2 : encInts [1, (v.length : Int)] = 1 :: uv v.length := by rw [encInts_cons, encInts_cons, uv_one]; simp [encInts]
  have hl : b.length = (encInts [1, (v.length : Int)]).length + (uv (cnz v) ++ encInts (sp v)).length := by rw [← he]; simp
  have hd : b.drop 1 = uv v.length ++ (uv (cnz v) ++ encInts (sp v)) := by rw [← he, e2]; rfl
  refine ⟨_, r0, d1, by omega, by rw [← he, e2]; rfl, ?_, ?_⟩
  · rw [rdU_complete (a0 _ (by simp)) hd, e2]; simp
  · rw [e2]; simp
theorem spAt_inj {b v v' : List Int} {t : Nat} (h : validV v = true) (h' : validV v' = true) (hl : v.length = v'.length) (hs : SpAt b t v) (hs' : SpAt b t v') : v = v' := by
  obtain ⟨ps, z, c, p1, p2, p3, p4, p5, p6, p7⟩ := spAt_parts h hs
  obtain ⟨qs, y, d, q1, q2, q3, q4, q5, q6, q7⟩ := spAt_parts h' hs'
  rw [p1] at q1
  simp only [Option.some.injEq, Prod.mk.injEq] at q1
  obtain ⟨n1, rfl⟩ := q1
  have n2 : ps.length = qs.length := by omega
  have r1 := p7 _ (Nat.le_refl _)
  have r2 := q7 _ (Nat.le_refl _)
  rw [← n2, r1] at r2
  simp only [Option.some.injEq, Prod.mk.injEq] at r2
  have := r2.1
  rw [List.take_length, n2, List.take_length] at this
  have e := flatP_inj this
  subst e
  have hz : z = y := by rw [p2, q2] at hl; simpa using hl
  rw [p2, q2, hz]
theorem decCo_some {v b : List Int} (h : validV v = true) (he : encDense v = b ∨ encSparse v = b) : decCo b = some v := by
  have hex : ∃ v : List Int, validV v = true ∧ (encDense v = b ∨ encSparse v = b) := ⟨v, h, he⟩
  unfold decCo
  rw [dif_pos hex]
  obtain ⟨c1, c2⟩ := Classical.choose_spec hex
  generalize Classical.choose hex = u at c1 c2
  congr 1
  rcases he with he | he <;> rcases c2 with c2 | c2
  · obtain ⟨e, p1, p2, _⟩ := dense_parts h he
    obtain ⟨e', q1, q2, _⟩ := dense_parts c1 c2
    rw [p1] at q1
    simp only [Option.some.injEq, Prod.mk.injEq, List.cons.injEq, and_true, true_and] at q1
    obtain ⟨n1, rfl⟩ := q1
    rw [show u.length = v.length by omega, p2] at q2
    simp only [Option.some.injEq, Prod.mk.injEq, and_true] at q2
    exact q2.symm
  · obtain ⟨e, _, _, _, p, _⟩ := dense_parts h he
    obtain ⟨e', _, _, _, q, _⟩ := sparse_parts c1 c2
    rw [p] at q
    cases q
  · obtain ⟨e, _, _, _, p, _⟩ := sparse_parts h he
    obtain ⟨e', _, _, _, q, _⟩ := dense_parts c1 c2
    rw [p] at q
    cases q
  · obtain ⟨e, p1, p2, _⟩ := sparse_parts h he
    obtain ⟨e', q1, q2, _⟩ := sparse_parts c1 c2
    rw [p1] at q1
    simp only [Option.some.injEq, Prod.mk.injEq, List.cons.injEq, and_true, true_and] at q1
    obtain ⟨n1, rfl⟩ := q1
    exact spAt_inj c1 h (by omega) q2 p2
theorem decCo_none {b : List Int} (h : ∀ v, validV v = true → encDense v ≠ b ∧ encSparse v ≠ b) : decCo b = none := by
  unfold decCo
  rw [dif_neg]
  rintro ⟨v, h1, h2 | h2⟩
  · exact (h v h1).1 h2
  · exact (h v h1).2 h2
theorem decCo_sound {v b : List Int} (h : decCo b = some v) : validV v = true ∧ (encDense v = b ∨ encSparse v = b) := by
  unfold decCo at h
  split at h
  · rename_i hex
    have := Classical.choose_spec hex
    injection h with h
    rw [h] at this
    exact this
  · cases h
noncomputable def dcV (b : List Int) : List Int := match decCo b with | none => [] | some v => v
noncomputable def dcOk (b : List Int) : Bool := match decCo b with | none => false | some _ => true
theorem dc_some {v b : List Int} (h : decCo b = some v) : dcV b = v ∧ dcOk b = true := by simp [dcV, dcOk, h]
theorem dc_none {b : List Int} (h : decCo b = none) : dcV b = [] ∧ dcOk b = false := by simp [dcV, dcOk, h]
theorem dc_len (b : List Int) : (dcV b).length ≤ 1048576 := by
  cases h : decCo b with
  | none => rw [(dc_none h).1]; simp
  | some v =>
    have := (validV_true.1 (decCo_sound h).1).2
    rw [(dc_some h).1]
    omega

/-- Why nothing is found. -/
theorem dc_no_head {b : List Int} (h : rdTo b 0 2 = none) : decCo b = none := decCo_none fun v hv => ⟨fun he => (by
  obtain ⟨e, p, _⟩ := dense_parts hv he
  rw [h] at p; cases p), fun he => (by
  obtain ⟨e, p, _⟩ := sparse_parts hv he
  rw [h] at p; cases p)⟩
theorem dc_no_n {b : List Int} (h : rdU b 1 = none) : decCo b = none := decCo_none fun v hv => ⟨fun he => (by
  obtain ⟨e, _, _, _, _, p, _⟩ := dense_parts hv he
  rw [h] at p; cases p), fun he => (by
  obtain ⟨e, _, _, _, _, p, _⟩ := sparse_parts hv he
  rw [h] at p; cases p)⟩
theorem dc_big {b : List Int} {f n : Int} {e : Nat} (h : rdTo b 0 2 = some ([f, n], e)) (hn : 40 < n) : decCo b = none := decCo_none fun v hv => ⟨fun he => by
  obtain ⟨e, p, _⟩ := dense_parts hv he
  have := (validV_true.1 hv).2
  rw [h] at p
  simp only [Option.some.injEq, Prod.mk.injEq, List.cons.injEq, and_true] at p
  omega, fun he => by
  obtain ⟨e, p, _⟩ := sparse_parts hv he
  have := (validV_true.1 hv).2
  rw [h] at p
  simp only [Option.some.injEq, Prod.mk.injEq, List.cons.injEq, and_true] at p
  omega⟩
theorem dc_big' {b : List Int} {n : Int} {c : Nat} (h : rdU b 1 = some (n, c)) (hn : 40 < n) : decCo b = none := decCo_none fun v hv => ⟨fun he => by
  obtain ⟨e, _, _, _, _, p, _⟩ := dense_parts hv he
  have := (validV_true.1 hv).2
  rw [h] at p
  simp only [Option.some.injEq, Prod.mk.injEq] at p
  omega, fun he => by
  obtain ⟨e, _, _, _, _, p, _⟩ := sparse_parts hv he
  have := (validV_true.1 hv).2
  rw [h] at p
  simp only [Option.some.injEq, Prod.mk.injEq] at p
  omega⟩
theorem dc_empty : decCo [] = none := dc_no_n (by simp [rdU, rdF])

end Go.Proofs.Ytkegknophppdgaa
