/- Plain: reading numbers back from bytes; what is read is what was written. No program is named here. -/
import Derived.Test.YtkegknophppdgaaSym
namespace Go.Proofs.Ytkegknophppdgaa
set_option linter.unusedVariables false
set_option maxRecDepth 20000

/-- Reads a number: f bytes at most, k bytes were read, which make n. It says the number and how many bytes it took. -/
def rdF : Nat → List Int → Nat → Int → Option (Int × Nat)
  | 0, _, _, _ => none
  | _ + 1, [], _, _ => none
  | f + 1, x :: r, k, n => if 128 ≤ x then rdF f r (k + 1) (n + x % 128 * 128 ^ k) else if (x = 0 ∧ 0 < k) ∨ 1000000000000 < n + x * 128 ^ k then none else some (n + x * 128 ^ k, k + 1)
def rdU (b : List Int) (t : Nat) : Option (Int × Nat) := rdF 6 (b.drop t) 0 0

theorem rdF_sound (f : Nat) : ∀ (bs : List Int) (k : Nat) (n m : Int) (c g : Nat), AllB bs → rdF f bs k n = some (m, c) → f ≤ g + 1 →
    ∃ q : Int, 0 ≤ q ∧ (0 < k → 0 < q) ∧ m = n + q * 128 ^ k ∧ m ≤ 1000000000000 ∧ k ≤ c ∧ bs = uvF g q ++ bs.drop (c - k) ∧ (uvF g q).length = c - k := by
  induction f with
  | zero => intro bs k n m c g _ h; simp [rdF] at h
  | succ f ih =>
    intro bs k n m c g hb h hg
    cases bs with
    | nil => simp [rdF] at h
    | cons x r =>
      have hx := hb x (by simp)
      have hr : AllB r := fun y hy => hb y (by simp [hy])
      unfold rdF at h
      split at h
      · rename_i h128
        cases g with
        | zero =>
          obtain rfl : f = 0 := by omega
          simp [rdF] at h
        | succ g =>
          obtain ⟨q, h1, h2, h3, h4, h5, h6, h7⟩ := ih r (k + 1) _ m c g hr h (by omega)
          have hq := h2 (by omega)
          have e1 : (x % 128 + q * 128) % 128 + 128 = x := by omega
          have e2 : (x % 128 + q * 128) / 128 = q := by omega
          have e3 : uvF (g + 1) (x % 128 + q * 128) = x :: uvF g q := by
            show (if 128 ≤ x % 128 + q * 128 then _ else _) = _
            rw [if_pos (by omega), e1, e2]
          obtain ⟨d, hd⟩ : ∃ d, c - k = d + 1 := ⟨c - k - 1, by omega⟩
          have hd' : c - (k + 1) = d := by omega
          rw [hd'] at h6 h7
          refine ⟨x % 128 + q * 128, by omega, fun _ => by omega, ?_, h4, by omega, ?_, ?_⟩
          · rw [h3, Int.pow_succ, Int.add_mul]
            have : q * (128 ^ k * 128) = q * 128 * 128 ^ k := by rw [Int.mul_assoc, Int.mul_comm 128]
            rw [this]
            omega
          · rw [e3, hd, List.drop_succ_cons, List.cons_append, ← h6]
          · rw [e3, hd, List.length_cons, h7]
      · rename_i h128
        split at h
        · cases h
        · rename_i hno
          injection h with h
          injection h with hm hc
          subst hc
          have e1 : uvF g x = [x] := uvF_small g (by omega)
          refine ⟨x, hx.1, fun hk => ?_, hm.symm, ?_, by omega, ?_, ?_⟩
          · rcases Int.lt_or_le 0 x with h | h
            · exact h
            · exact absurd (Or.inl ⟨by omega, hk⟩) hno
          · rcases Int.lt_or_le 1000000000000 m with h | h
            · exact absurd (Or.inr (by rw [hm]; exact h)) hno
            · exact h
          · rw [e1, show k + 1 - k = 1 by omega]; rfl
          · rw [e1, show k + 1 - k = 1 by omega]; rfl

theorem rdU_sound {b : List Int} {t : Nat} {n : Int} {c : Nat} (hb : AllB b) (h : rdU b t = some (n, c)) :
    inR n 0 1000000000000 = true ∧ b.drop t = uv n ++ b.drop (t + c) ∧ (uv n).length = c := by
  have hb' : AllB (b.drop t) := fun x hx => hb x (List.mem_of_mem_drop hx)
  obtain ⟨q, h1, _, h3, h4, _, h6, h7⟩ := rdF_sound 6 (b.drop t) 0 0 n c 6 hb' h (by omega)
  have hq : n = q := by rw [h3]; simp
  subst hq
  have hr : inR n 0 1000000000000 = true := inR_true.2 ⟨h1, h4⟩
  rw [Nat.sub_zero, List.drop_drop] at h6
  unfold uv
  rw [if_pos hr]
  exact ⟨hr, h6, h7⟩

theorem rdF_complete (f : Nat) : ∀ (r : List Int) (k : Nat) (n q : Int) (g : Nat), 0 ≤ q → (0 < k → 0 < q) → q < 128 ^ f → 0 < f → n + q * 128 ^ k ≤ 1000000000000 → f ≤ g + 1 →
    rdF f (uvF g q ++ r) k n = some (n + q * 128 ^ k, k + (uvF g q).length) := by
  induction f with
  | zero => intro r k n q g _ _ _ h; omega
  | succ f ih =>
    intro r k n q g h0 hk hlt _ hm hg
    by_cases h128 : 128 ≤ q
    · cases f with
      | zero => simp at hlt; omega
      | succ f =>
        obtain ⟨g, rfl⟩ : ∃ g', g = g' + 1 := ⟨g - 1, by omega⟩
        have e3 : uvF (g + 1) q = (q % 128 + 128) :: uvF g (q / 128) := by
          show (if 128 ≤ q then _ else _) = _
          rw [if_pos h128]
        have hd : q / 128 < 128 ^ (f + 1) := Int.ediv_lt_of_lt_mul (by omega) (by rw [Int.pow_succ] at hlt; exact hlt)
        have e5 : n + (q % 128 + 128) % 128 * 128 ^ k + q / 128 * 128 ^ (k + 1) = n + q * 128 ^ k := by
          have e6 : q / 128 * 128 ^ (k + 1) = (q / 128 * 128) * 128 ^ k := by rw [Int.pow_succ, Int.mul_comm (128 ^ k), Int.mul_assoc]
          rw [e6, Int.add_assoc, ← Int.add_mul]
          congr 2
          omega
        rw [e3, List.cons_append]
        show (if 128 ≤ q % 128 + 128 then _ else _) = _
        rw [if_pos (by omega), ih r (k + 1) _ (q / 128) g (by omega) (fun _ => by omega) hd (by omega) (by rw [e5]; exact hm) (by omega), e5, List.length_cons]
        congr 2
        omega
    · have e1 : uvF g q = [q] := uvF_small g (by omega)
      rw [e1]
      show (if 128 ≤ q then _ else if (q = 0 ∧ 0 < k) ∨ 1000000000000 < n + q * 128 ^ k then _ else _) = _
      rw [if_neg h128, if_neg]
      · rfl
      · rintro (⟨h1, h2⟩ | h)
        · have := hk h2; omega
        · omega

theorem rdU_complete {b r : List Int} {t : Nat} {n : Int} (hn : inR n 0 1000000000000 = true) (h : b.drop t = uv n ++ r) : rdU b t = some (n, (uv n).length) := by
  obtain ⟨h0, h1⟩ := inR_true.1 hn
  unfold rdU
  rw [h]
  unfold uv
  rw [if_pos hn]
  have := rdF_complete 6 r 0 0 n 6 h0 (fun h => by omega) (by omega) (by omega) (by simpa using h1) (by omega)
  simpa using this

/-- The numbers of a list are in range. -/
def AllR (xs : List Int) : Prop := ∀ x ∈ xs, inR x 0 1000000000000 = true

/-- k numbers, one behind the other, from t on; and where they end. -/
def rdTo (b : List Int) (t : Nat) : Nat → Option (List Int × Nat)
  | 0 => some ([], t)
  | k + 1 => match rdTo b t k with
    | none => none
    | some (l, e) => match rdU b e with
      | none => none
      | some (n, c) => some (l ++ [n], e + c)
theorem rdTo_succ {b : List Int} {t k e c : Nat} {l : List Int} {n : Int} (h : rdTo b t k = some (l, e)) (h' : rdU b e = some (n, c)) : rdTo b t (k + 1) = some (l ++ [n], e + c) := by
  simp [rdTo, h, h']
theorem rdTo_fail {b : List Int} {t k e : Nat} {l : List Int} (h : rdTo b t k = some (l, e)) (h' : rdU b e = none) : rdTo b t (k + 1) = none := by
  simp [rdTo, h, h']
theorem rdTo_none {b : List Int} {t k j : Nat} (h : rdTo b t k = none) (hj : k ≤ j) : rdTo b t j = none := by
  induction j with
  | zero =>
    obtain rfl : k = 0 := by omega
    exact h
  | succ j ih =>
    by_cases he : k = j + 1
    · subst he; exact h
    · simp [rdTo, ih (by omega)]

theorem drop_add_of {b x : List Int} {t : Nat} {r : List Int} (h : b.drop t = x ++ r) : b.drop (t + x.length) = r := by
  rw [← List.drop_drop, h, List.drop_left]

theorem rdTo_sound {b : List Int} {t : Nat} (hb : AllB b) : ∀ (k : Nat) (l : List Int) (e : Nat), rdTo b t k = some (l, e) → l.length = k ∧ AllR l ∧ b.drop t = encInts l ++ b.drop e ∧ e = t + (encInts l).length := by
  intro k
  induction k with
  | zero =>
    intro l e h
    simp [rdTo] at h
    obtain ⟨rfl, rfl⟩ := h
    exact ⟨rfl, fun x hx => by simp at hx, by simp [encInts], by simp [encInts]⟩
  | succ k ih =>
    intro l e h
    unfold rdTo at h
    cases h1 : rdTo b t k with
    | none => rw [h1] at h; cases h
    | some p =>
      obtain ⟨l', e'⟩ := p
      rw [h1] at h
      simp only at h
      cases h2 : rdU b e' with
      | none => rw [h2] at h; cases h
      | some p =>
        obtain ⟨n, c⟩ := p
        rw [h2] at h
        simp only [Option.some.injEq, Prod.mk.injEq] at h
        obtain ⟨rfl, rfl⟩ := h
        obtain ⟨i1, i2, i3, i4⟩ := ih l' e' h1
        obtain ⟨j1, j2, j3⟩ := rdU_sound hb h2
        refine ⟨by simp [i1], ?_, ?_, ?_⟩
        · intro x hx
          simp at hx
          rcases hx with hx | rfl
          · exact i2 x hx
          · exact j1
        · rw [i3, j2, encInts_append]; simp [encInts]
        · rw [encInts_append, List.length_append, i4, Nat.add_assoc, ← j3]; simp [encInts]

theorem snoc_ind {p : List Int → Prop} (h0 : p []) (h1 : ∀ l x, p l → p (l ++ [x])) (l : List Int) : p l := by
  have h : ∀ r : List Int, p r.reverse := by
    intro r
    induction r with
    | nil => exact h0
    | cons x r ih => rw [List.reverse_cons]; exact h1 _ _ ih
  have := h l.reverse
  rwa [List.reverse_reverse] at this

theorem rdTo_complete {b : List Int} {t : Nat} (l : List Int) : ∀ (r : List Int), AllR l → b.drop t = encInts l ++ r → rdTo b t l.length = some (l, t + (encInts l).length) := by
  refine snoc_ind (p := fun l => ∀ (r : List Int), AllR l → b.drop t = encInts l ++ r → rdTo b t l.length = some (l, t + (encInts l).length)) ?_ ?_ l
  · intro r _ _; simp [rdTo, encInts]
  · intro l n ih r hl h
    rw [encInts_append, List.append_assoc] at h
    have h1 := ih _ (fun x hx => hl x (by simp [hx])) h
    have h2 := drop_add_of h
    have e : encInts [n] = uv n := by simp [encInts]
    rw [e] at h2
    have h3 := rdU_complete (hl n (by simp)) h2
    rw [List.length_append, List.length_singleton, rdTo_succ h1 h3, encInts_append, e, List.length_append, Nat.add_assoc]

/-- Numbers in range are known by their bytes. -/
theorem encInts_inj {l l' r r' : List Int} (h : AllR l) (h' : AllR l') (hl : l.length = l'.length) (he : encInts l ++ r = encInts l' ++ r') : l = l' ∧ r = r' := by
  have h1 := rdTo_complete (b := encInts l ++ r) (t := 0) l r h rfl
  have h2 := rdTo_complete (b := encInts l ++ r) (t := 0) l' r' h' (by rw [List.drop_zero]; exact he)
  rw [hl, h2] at h1
  injection h1 with h1
  injection h1 with h1 _
  subst h1
  exact ⟨rfl, List.append_cancel_left he⟩

end Go.Proofs.Ytkegknophppdgaa
