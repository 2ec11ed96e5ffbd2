/- Plain: bytes restored from their symbols. No program is named here. -/
import Derived.Test.YtkegknophppdgaaRd
import Derived.Test.YtkegknophppdgaaLawSym
namespace Go.Proofs.Ytkegknophppdgaa
set_option linter.unusedVariables false
set_option maxRecDepth 20000

theorem symTo_flat (m : Nat) (bs : List Int) (j : Nat) : (symTo m bs j).flatten = bs.take (j * m) ++ List.replicate (j * m - bs.length) 0 := by
  induction j with
  | zero => simp [symTo]
  | succ j ih =>
    rw [symTo_succ, List.flatten_append, ih]
    simp only [List.flatten_cons, List.flatten_nil, List.append_nil]
    unfold symRow padTo
    rw [Nat.succ_mul]
    rcases Nat.lt_or_ge (j * m) bs.length with h | h
    · rw [show j * m - bs.length = 0 by omega, List.replicate_zero, List.append_nil, ← List.append_assoc]
      have e : bs.take (j * m) ++ (bs.drop (j * m)).take (min m (bs.length - j * m)) = bs.take (j * m + m) := by
        rw [List.take_add]
        congr 1
        apply List.ext_getElem?
        intro i
        simp only [List.getElem?_take, List.getElem?_drop]
        by_cases h1 : i < m
        · by_cases h2 : i < bs.length - j * m
          · rw [if_pos (by omega), if_pos h1]
          · rw [if_neg (by omega), if_pos h1, List.getElem?_eq_none (by omega)]
        · rw [if_neg (by omega), if_neg h1]
      rw [e]
      congr 2
      omega
    · rw [show min m (bs.length - j * m) = 0 by omega, List.take_zero, List.nil_append, Nat.sub_zero, List.take_of_length_le h, List.take_of_length_le (by omega), List.append_assoc, List.replicate_append_replicate]
      congr 2
      omega

theorem symN_mul {m len : Nat} (h : 0 < m) : len ≤ symN m len * m := by
  unfold symN
  have h1 := Nat.div_add_mod (len + m - 1) m
  have h2 := Nat.mod_lt (len + m - 1) h
  rw [Nat.mul_comm] at h1
  omega

/-- The bytes of the symbols: what was written, then 0. -/
theorem syms_flat {ds : List Int} {m : Int} (h : inR m 1 16 = true) (h' : ds.length ≤ 400) : ∃ z, (syms ds m).flatten = uv ds.length ++ (ds ++ List.replicate z 0) ∧ (syms ds m).flatten.length ≤ 425 ∧ syms ds m ≠ [] ∧ cols (syms ds m) = m := by
  obtain ⟨h1, h2⟩ := inR_true.1 h
  obtain ⟨k, rfl⟩ := Int.eq_ofNat_of_zero_le (show 0 ≤ m by omega)
  have e : encBytes [] ds = uv ds.length ++ ds := by simp [encBytes]
  have hl := encBytes_len ds
  have hm := symN_mul (m := k) (len := (encBytes [] ds).length) (by omega)
  have hlt : symN k (encBytes [] ds).length * k < (encBytes [] ds).length + k := by
    unfold symN
    have h1 := Nat.div_mul_le_self ((encBytes [] ds).length + k - 1) k
    omega
  have hpos : 0 < (encBytes [] ds).length := by
    rw [e]
    have : 0 < (uv (ds.length : Int)).length := by
      unfold uv
      rw [if_pos (inR_true.2 ⟨by omega, by omega⟩)]
      unfold uvF
      split <;> simp
    simp
    omega
  rw [show ((k : Nat) : Int) = ((k : Nat) : Int) by rfl, syms_yes h h']
  have hne : symN k (encBytes [] ds).length ≠ 0 := by
    intro h0
    rw [h0] at hm
    omega
  refine ⟨symN k (encBytes [] ds).length * k - (encBytes [] ds).length, ?_, ?_, ?_, ?_⟩
  · rw [symTo_flat, List.take_of_length_le hm]
    conv => lhs; lhs; rw [e]
    rw [List.append_assoc]
  · rw [symTo_flat, List.take_of_length_le hm]
    simp
    omega
  · intro hn
    have := symTo_length k (encBytes [] ds) (symN k (encBytes [] ds).length)
    rw [hn] at this
    exact hne this.symm
  · obtain ⟨j, hj⟩ : ∃ j, symN k (encBytes [] ds).length = j + 1 := ⟨_, (Nat.succ_pred hne).symm⟩
    rw [hj]
    have : ∃ r, symTo k (encBytes [] ds) (j + 1) = symRow k (encBytes [] ds) 0 :: r := by
      unfold symTo
      rw [List.range_succ_eq_map]
      exact ⟨_, by simp; rfl⟩
    obtain ⟨r, hr⟩ := this
    rw [hr]
    simp [cols, symRow_length]

open Classical in
/-- The bytes whose symbols these are. -/
noncomputable def unsym (m : List (List Int)) : Option (List Int) :=
  if h : ∃ ds : List Int, AllB ds ∧ ds.length ≤ 400 ∧ inR (cols m) 1 16 = true ∧ syms ds (cols m) = m then some (Classical.choose h) else none

theorem sym_read {ds : List Int} {m : List (List Int)} (hl : ds.length ≤ 400) (hc : inR (cols m) 1 16 = true) (h : syms ds (cols m) = m) :
    ∃ c z, rdU m.flatten 0 = some ((ds.length : Int), c) ∧ m.flatten.drop c = ds ++ List.replicate z 0 ∧ m.flatten.length = c + ds.length + z ∧ m.flatten.length ≤ 425 := by
  obtain ⟨z, h1, h2, _⟩ := syms_flat hc hl
  rw [h] at h1 h2
  have hr := rdU_complete (b := m.flatten) (t := 0) (n := (ds.length : Int)) (inR_true.2 ⟨by omega, by omega⟩) (by rw [List.drop_zero]; exact h1)
  refine ⟨_, z, hr, ?_, ?_, h2⟩
  · rw [h1, List.drop_left]
  · rw [h1]; simp; omega

theorem unsym_some {ds : List Int} {m : List (List Int)} (hb : AllB ds) (hl : ds.length ≤ 400) (hc : inR (cols m) 1 16 = true) (h : syms ds (cols m) = m) : unsym m = some ds := by
  have hex : ∃ ds : List Int, AllB ds ∧ ds.length ≤ 400 ∧ inR (cols m) 1 16 = true ∧ syms ds (cols m) = m := ⟨ds, hb, hl, hc, h⟩
  unfold unsym
  rw [dif_pos hex]
  obtain ⟨c1, c2, c3, c4⟩ := Classical.choose_spec hex
  obtain ⟨c, z, p1, p2, _⟩ := sym_read hl hc h
  obtain ⟨c', z', q1, q2, _⟩ := sym_read c2 c3 c4
  rw [p1] at q1
  simp only [Option.some.injEq, Prod.mk.injEq] at q1
  obtain ⟨n1, rfl⟩ := q1
  rw [p2] at q2
  congr 1
  exact (List.append_inj_left q2 (by omega)).symm
theorem unsym_none {m : List (List Int)} (h : ∀ ds, AllB ds → ds.length ≤ 400 → inR (cols m) 1 16 = true → syms ds (cols m) ≠ m) : unsym m = none := by
  unfold unsym
  rw [dif_neg]
  rintro ⟨ds, h1, h2, h3, h4⟩
  exact h ds h1 h2 h3 h4
theorem unsym_sound {ds : List Int} {m : List (List Int)} (h : unsym m = some ds) : AllB ds ∧ ds.length ≤ 400 ∧ inR (cols m) 1 16 = true ∧ syms ds (cols m) = m := by
  unfold unsym at h
  split at h
  · rename_i hex
    have := Classical.choose_spec hex
    injection h with h
    rw [h] at this
    exact this
  · cases h
noncomputable def usD (m : List (List Int)) : List Int := match unsym m with | none => [] | some v => v
noncomputable def usOk (m : List (List Int)) : Bool := match unsym m with | none => false | some _ => true
theorem us_some {ds : List Int} {m : List (List Int)} (h : unsym m = some ds) : usD m = ds ∧ usOk m = true := by simp [usD, usOk, h]
theorem us_none {m : List (List Int)} (h : unsym m = none) : usD m = [] ∧ usOk m = false := by simp [usD, usOk, h]
theorem us_len (m : List (List Int)) : (usD m).length ≤ 1048576 := by
  cases h : unsym m with
  | none => rw [(us_none h).1]; simp
  | some v =>
    have := (unsym_sound h).2.1
    rw [(us_some h).1]
    omega

theorem AllB.mem_syms {ds : List Int} {m : Int} (hb : AllB ds) : AllB (syms ds m).flatten := by
  cases h : inR m 1 16
  · rw [syms_no (.inl h)]; intro x hx; simp at hx
  · by_cases h' : ds.length ≤ 400
    · obtain ⟨z, h1, _⟩ := syms_flat h h'
      rw [h1]
      refine (uv_bytes _).append (hb.append fun x hx => ?_)
      have := List.eq_of_mem_replicate hx
      omega
    · rw [syms_no (.inr h')]; intro x hx; simp at hx

/-- What is written with these symbols has a width in range. -/
theorem sym_width {ds : List Int} {m : List (List Int)} (h : syms ds (cols m) = m) (hne : 0 < m.flatten.length) : inR (cols m) 1 16 = true ∧ ds.length ≤ 400 := by
  cases hc : inR (cols m) 1 16
  · rw [syms_no (.inl hc)] at h
    rw [← h] at hne
    simp at hne
  · refine ⟨rfl, ?_⟩
    by_cases h' : ds.length ≤ 400
    · exact h'
    · rw [syms_no (.inr h')] at h
      rw [← h] at hne
      simp at hne

/-- A reader of the symbols' bytes: what it finds, compared. -/
theorem unsym_found {ds : List Int} {m : List (List Int)} (hb : AllB ds) (h : syms ds (cols m) = m) (hne : 0 < m.flatten.length) : unsym m = some ds :=
  unsym_some hb (sym_width h hne).2 (sym_width h hne).1 h
theorem unsym_bad {m : List (List Int)} (h : ¬ AllB m.flatten) : unsym m = none := unsym_none fun ds h1 h2 h3 h4 => h (by rw [← h4]; exact h1.mem_syms)
theorem unsym_long {m : List (List Int)} (h : 425 < m.flatten.length) : unsym m = none := unsym_none fun ds h1 h2 h3 h4 => by
  obtain ⟨_, _, _, _, _, p⟩ := sym_read h2 h3 h4
  omega
theorem unsym_noread {m : List (List Int)} (h : rdU m.flatten 0 = none) : unsym m = none := unsym_none fun ds h1 h2 h3 h4 => by
  obtain ⟨_, _, p, _⟩ := sym_read h2 h3 h4
  rw [h] at p
  cases p
theorem unsym_short {m : List (List Int)} {n : Int} {c : Nat} (h : rdU m.flatten 0 = some (n, c)) (hn : 400 < n ∨ (m.flatten.length : Int) - c < n) : unsym m = none := unsym_none fun ds h1 h2 h3 h4 => by
  obtain ⟨_, _, p, _, q, _⟩ := sym_read h2 h3 h4
  rw [h] at p
  simp only [Option.some.injEq, Prod.mk.injEq] at p
  omega
theorem unsym_ne {m : List (List Int)} {n : Nat} {c : Nat} (h : rdU m.flatten 0 = some ((n : Int), c)) (hne : syms ((m.flatten.drop c).take n) (cols m) ≠ m) : unsym m = none := unsym_none fun ds h1 h2 h3 h4 => by
  obtain ⟨c', z, p, q, _⟩ := sym_read h2 h3 h4
  rw [h] at p
  simp only [Option.some.injEq, Prod.mk.injEq] at p
  obtain ⟨p1, rfl⟩ := p
  obtain rfl : n = ds.length := by omega
  rw [q, List.take_left] at hne
  exact hne h4

end Go.Proofs.Ytkegknophppdgaa
